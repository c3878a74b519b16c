/- The value machine: calls, every operation, regions in every order. Conditions: as each lemma says. -/
import Derived.Test.YtoaflbnkiobhdaaGreatVb
import Derived.ArgAppend
set_option linter.unusedVariables false
set_option linter.unusedSimpArgs false
namespace Go.Proofs.YtoaflbnkiobhdaaGreat.Vm
section
variable {P:Program} {Γ:Ctx} {w0:World} {S:Own} {st:St} {o:Oper} {e:cF} {a:Act} {w w':World}
variable {f:Nat→SV} {h:Nat→Option aj} {β:Env} {φ:Nat→List Nat} {tm:Array Value}
theorem AZ (hR:Rel w0 S st a w) (hd:∀d,o.dst=some d→a_ st.n d) {t:TypeId} {x:Operand} {lo hi:Option Operand} (ho:o.op= .slice t x lo hi none) {sx:SV} {DH DG:Option SV}
  (h1:(bZ x).val st.get st.obj=some sx) (h2:(j5 lo).val st.get st.obj=some DH) (h3:(j5 hi).val st.get st.obj=some DG)
  (he:(CJ P t sx DH DG).val st.get st.obj=some e) (aI:e.ok=true):Good P w0 S st o e a w:=by
 unfold CJ at he
 split at he
 ·rename_i et id k l hu
  simp only[M.aS,Option.bind_eq_some_iff] at he
  obtain⟨ob,aJ,he⟩:=he
  split at he
  ·rename_i t' ct r fz u
   cases hz:Nat.beq t' et && aX P et ct.length
   ·simp [hz] at he
   simp only[hz,cond_true,M.aa,Option.some.injEq] at he
   subst he
   simp only[Bool.and_eq_true] at hz
   simp only[Bool.and_eq_true,decide_eq_true_eq] at aI
   obtain⟨i,dI,dm⟩:=aV hz.2
   refine ao hR hd rfl rfl fun β φ hc=> ?_
   have hx:=hc.ev h1
   simp only[ak] at hx
   obtain⟨vals,aA,aY,_⟩:=hc.ay id _ aJ
   rcases aY.2 with ⟨_,h0,_⟩ | ⟨g,cap,cur,hv,hg,AD,DN,fh,EP⟩
   ·omega
   have hb:=i_ (P:=P) (isS:=true) (n:=r.length) (cap:=cap) (l:=l.toNat) (m:=r.length) (c:=decide (0≤l) && decide (l≤(r.length:Int))) AD hc h2 h3 rfl (by simp only[Bool.and_eq_true,decide_eq_true_eq];exact aI.1)
   refine⟨.slice (some ⟨g,if l.toNat<cap then l.toNat*ct.length else 0,none⟩) (r.length - l.toNat) (cap - l.toNat), ?_, ?_⟩
   ·have bo:(execOp a.eval o).run P w= .ok (.value (.slice (if cap=l.toNat then some ⟨g,0,none⟩ else (some (⟨g,0,none⟩:Addr)).map (·.add (l.toNat*i.size))) (r.length - l.toNat) (cap - l.toNat))) w:=by
     simp [execOp,ho,hx.1,hv,Instr.sliceAt,Instr.slice,run_underlying hu,hb,sizeOf,typeInfo,dI]
    rw[bo]
    by_cases cl:l.toNat<cap
    ·rw[if_neg (by omega),if_pos cl,dm]
     simp [de]
    ·rw[if_pos (by omega),if_neg cl]
   ·simp only[ak]
    exact⟨g,r.length,cap,hv,by omega,rfl⟩
  ·simp at he
 ·simp at he
theorem dC.take {ct:List CT} {rows:List (List DC)} {vals:List Value} {aA:List (List Nat)} (c3:dC w ct rows vals aA) (k:Nat):dC w ct (rows.take k) (vals.take (k*ct.length)) (aA.take k):=by
 refine⟨by simp [c3.1],fun i r f hi hf=> ?_⟩
 rw[List.getElem?_take] at hi hf
 split at hi
 ·rename_i DP
  rw[if_pos DP] at hf
  refine bk.aZ.i7 (fun j u hj hu=> ?_) (c3.2 i r f hi hf)
  rw[List.getElem?_take,if_pos]
  ·exact hu
  ·have:(i+1)*ct.length≤k*ct.length:=Nat.mul_le_mul_right _ DP
   rw[Nat.succ_mul] at this
   omega
 ·cases hi
theorem dC.drop {ct:List CT} {rows:List (List DC)} {vals:List Value} {aA:List (List Nat)} (c3:dC w ct rows vals aA) (k:Nat):dC w ct (rows.drop k) (vals.drop (k*ct.length)) (aA.drop k):=by
 refine⟨by simp [c3.1],fun i r f hi hf=> ?_⟩
 rw[List.getElem?_drop] at hi hf
 refine bk.aZ.i7 (fun j u hj hu=> ?_) (c3.2 (k+i) r f hi hf)
 rw[List.getElem?_drop,←hu]
 congr 1
 rw[Nat.add_mul]
 omega
theorem CN (hR:Rel w0 S st a w) (hd:∀d,o.dst=some d→a_ st.n d) {t t2:TypeId} {x y:Operand} {c:Call} (ho:o.op= .call c) (hb:c.callee= .builtin .copy) (cr:c.args= #[x,y]) (FF:c.argTypes= #[t,t2]) {sx sy:SV}
  (h1:(bZ x).val st.get st.obj=some sx) (h2:(bZ y).val st.get st.obj=some sy) (he:(Ea P t sx sy).val st.get st.obj=some e) (aI:e.ok=true):Good P w0 S st o e a w:=by
 unfold Ea at he
 split at he
 ·rename_i et id lo z s hu
  simp only[M.aS,Option.bind_eq_some_iff] at he
  obtain⟨ob,aJ,he⟩:=he
  split at he
  ·rename_i t' ct r fz u
   cases hz:Nat.beq t' et && aX P et 1 && Nat.beq z 1 && aF ct [.int .u8]
   ·simp [hz] at he
   simp only[hz,cond_true,M.aa,Option.some.injEq] at he
   subst he
   simp only[Bool.and_eq_true] at hz
   have Bn:=aM _ _ hz.2
   subst Bn
   have mD:=Nat.eq_of_beq_eq_true hz.1.2
   subst mD
   obtain⟨i,hi,bq⟩:=aV hz.1.1.2
   have Kk:lo≤r.length:=by simpa using aI
   obtain⟨β,φ,hc⟩:=hR.core
   have EK:=hc.ev h1
   simp only[ak] at EK
   obtain⟨g,n,cap,hval,MH,Bw⟩:=EK
   have hy:=hc.ev h2
   simp only[ak] at hy
   obtain⟨vals,aA,aY,c3,Hd,ki⟩:=hc.ay id _ aJ
   have FG:g∈al β id (.row t' [.int .u8] r fz u):=by simp [al,hval,Value.ownBlock]
   rcases aY.2 with ⟨Gz,_,_⟩ | ⟨g',HX,cur,hv',hg,AD,DN,fh,EP⟩
   ·rw[hval] at Gz;cases Gz
   rw[hval] at hv'
   injection hv' with e1 e2 e3
   injection e1 with e1
   injection e1 with e1
   subst e1 e2 e3
   have Cj:=ah (hc.ay id _ aJ) g FG
   have Ll:=(hc.fresh id _ aJ).2 g Cj
   have AJ:=aY.1
   simp only[List.length_cons,List.length_nil,Nat.zero_add,Nat.mul_one] at AJ fh EP Bw
   have Bo:aq [CT.int .u8]=true:=rfl
   let us:List Value:=(s.take (r.length - lo)).map fun b=>Value.int .u8 b.toNat
   have Cr:us.length=min s.length (r.length - lo):=by simp [us,Nat.min_comm]
   have ba:∀v∈us,v.oneCell'=true:=by
    intro v hv
    simp only[us,List.mem_map] at hv
    obtain⟨b,_,rfl⟩:=hv
    rfl
   have Eu:∀j,j<cur.size→¬((bif fz then (cur.size,cur.size+1) else ((0,0):Nat×Nat)).1≤j∧j<(bif fz then (cur.size,cur.size+1) else ((0,0):Nat×Nat)).2):=by
    intro j hj
    cases fz<;>simp<;>omega
   have Hp:us=[]∨(if lo<cap then lo else 0)=lo:=by
    rcases Nat.lt_or_ge lo cap with h3 | h3
    ·exact .inr (if_pos h3)
    ·refine .inl ?_
     have:us.length=0:=by rw[Cr];omega
     exact List.eq_nil_of_length_eq_zero this
   have Hu:(storeCells ⟨g,if lo<cap then lo else 0,none⟩ us 0).run P w= .ok () (w.setRow g (cur.toList.take lo++(us++cur.toList.drop (lo+us.length))).toArray):=by
    rcases Hp with h3 | h3
    ·rw[h3]
     simp only[storeCells,List.nil_append,List.length_nil,Nat.add_zero,List.take_append_drop,Array.toArray_toList]
     rw[setRow_self w g cur t' _ hg]
     rfl
    ·rw[h3]
     have:=bN P g lo t' _ us 0 cur w hg Eu (by rw[Cr,fh];omega) ba
     simpa only[Nat.add_zero] using this
   have lO:(Builtin.firstCells i.size (Nat.min s.length (r.length - lo)) (.string ⟨s.toArray⟩)).run P w= .ok us.toArray w:=by
    have:((⟨s.toArray⟩:ByteArray).extract 0 (Nat.min s.length (r.length - lo))).data.map (fun b=>Value.int .u8 b.toNat)=us.toArray:=by
     rw[hX]
     have e5:s.take (Nat.min s.length (r.length - lo))=s.take (r.length - lo):=by
      rcases Nat.le_total s.length (r.length - lo) with h3 | h3
      ·rw[show Nat.min s.length (r.length - lo)=s.length from Nat.min_eq_left h3,List.take_length,List.take_of_length_le h3]
      ·rw[show Nat.min s.length (r.length - lo)=r.length - lo from Nat.min_eq_right h3]
     simp [us,e5]
    simp only[Builtin.firstCells,Sem.run_pure,this]
   have lQ:(cur.toList.take lo++(us++cur.toList.drop (lo+us.length))).length=cur.size:=by
    simp only[List.length_append,List.length_take,List.length_drop,Array.length_toList]
    omega
   have er:(r.take lo++(((s.take (r.length - lo)).map cO)++r.drop (lo+min s.length (r.length - lo)))).length=r.length:=by
    simp only[List.length_append,List.length_take,List.length_drop,List.length_map]
    omega
   have Ke:dC w [.int .u8] ((s.take (r.length - lo)).map cO) us (List.replicate us.length []):=by
    refine⟨by simp [us],fun k r' f' hk hf=> ?_⟩
    have Fs:k<(s.take (r.length - lo)).length:=by
     have:=(List.getElem?_eq_some_iff.1 hk).1
     simpa using this
    have EJ:r'=cO (s.take (r.length - lo))[k]:=by
     rw[List.getElem?_map,List.getElem?_eq_getElem Fs] at hk
     simpa using hk.symm
    have A8:f'=[]:=by
     have:=List.mem_of_getElem? hf
     exact (List.mem_replicate.1 this).2
    subst EJ A8
    unfold cO
    simp only[aZ,bU]
    refine⟨.int (s.take (r.length - lo))[k].toNat,[],.int .u8 (s.take (r.length - lo))[k].toNat,[],[],rfl, ?_,⟨_,rfl,rfl, ?_,rfl⟩,⟨rfl,rfl⟩,rfl⟩
    ·simp only[us,List.length_cons,List.length_nil,Nat.zero_add,Nat.mul_one,Nat.add_zero]
     rw[List.getElem?_map,List.getElem?_eq_getElem Fs]
     rfl
    ·rw[ec]
     have h1:IntKind.u8.min=0:=by decide
     have h2:IntKind.u8.max=255:=by decide
     have:=(s.take (r.length - lo))[k].toNat_lt
     omega
   have lR:dC w [.int .u8] (r.take lo++(((s.take (r.length - lo)).map cO)++r.drop (lo+min s.length (r.length - lo)))) (vals.take lo++(us++vals.drop (lo+us.length))) (aA.take lo++(List.replicate us.length []++aA.drop (lo+us.length))):=by
    have a1:=c3.take lo
    have a2:=c3.drop (lo+us.length)
    simp only[List.length_cons,List.length_nil,Nat.zero_add,Nat.mul_one] at a1 a2
    rw[←Cr]
    refine a1.append ?_ (Ke.append ?_ a2)
    ·simp only[List.length_cons,List.length_nil,Nat.zero_add,Nat.mul_one,List.length_take,AJ]
    ·simp [us]
   have G9:=lR.flat Bo
   have Hv:φ id=[g]:=by
    rw[ki,c3.flat Bo,hval]
    cases u<;>simp [Value.ownBlock]
   refine bI hR hd (v:= .int .i64 (min s.length (r.length - lo):Nat)) (w':=w.setRow g (cur.toList.take lo++(us++cur.toList.drop (lo+us.length))).toArray) ?_ (hR.kept.setRow Ll.1 _)
    ⟨β,az φ id [g], ?_, ?_⟩
   ·have Ba:Nat.min s.length (r.length - lo)=min s.length (r.length - lo):=rfl
    simp [execOp,ho,resolve,hb,cr,FF,invoke,builtin,Builtin.copy_,run_underlying hu,Bw,hy.1,Builtin.lenOf,sizeOf,typeInfo,hi,dj,lO,Hu,goInt]
   ·show Core w0 S st.get (az st.obj id (some (.row t' [.int .u8] (r.take lo++(((s.take (r.length - lo)).map cO)++r.drop (lo+min s.length (r.length - lo)))) fz u))) _ _ _ _
    refine hc.rewrite aJ FG (fun b ax=>ax) ?_ (by simp) ?_
    ·refine⟨vals.take lo++(us++vals.drop (lo+us.length)),aA.take lo++(List.replicate us.length []++aA.drop (lo+us.length)),⟨?_,.inr ⟨g,cap,(cur.toList.take lo++(us++cur.toList.drop (lo+us.length))).toArray,by rw[er];exact hval, ?_,by rw[er];exact AD,DN, ?_, ?_⟩⟩, ?_, ?_, ?_⟩
     ·rw[er]
      simp only[List.length_cons,List.length_nil,Nat.zero_add,Nat.mul_one,List.length_append,List.length_take,List.length_drop,AJ]
      omega
     ·rw[setRow_heap w _ _ _ _ _ hg]
      simp only[List.size_toArray,lQ]
     ·simp only[List.size_toArray,lQ,List.length_cons,List.length_nil,Nat.zero_add,Nat.mul_one]
      exact fh
     ·rw[er]
      simp only[List.length_cons,List.length_nil,Nat.zero_add,Nat.mul_one]
      rw[hY _ _ _ _ (by omega) (by simp only[Array.length_toList];omega),EP]
     ·exact lR.mono (by simp) (fun b ax=>by rw[G9] at ax;simp at ax)
     ·rw[G9];simp
     ·rw[G9,hval]
      cases u<;>simp [Value.ownBlock]
    ·intro b ax
     have LY:b=g:=by simpa using ax
     subst LY
     exact⟨Ll,fun j oj hj iQ=>hc.sep id j _ _ (Ne.symm hj) aJ iQ b Cj⟩
   ·unfold ak
    refine⟨rfl, ?_⟩
    rw[ec]
    have h1:IntKind.i64.min= -9223372036854775808:=by decide
    have h2:IntKind.i64.max=9223372036854775807:=by decide
    have:=hy.2
    simp only[maxLen] at this
    omega
  ·simp at he
 ·simp at he
end
end Go.Proofs.YtoaflbnkiobhdaaGreat.Vm
set_option linter.unusedVariables false
set_option linter.unusedSimpArgs false
namespace Go.Proofs.YtoaflbnkiobhdaaGreat.Vm
theorem cU (c:CT):(∃e,c= .sl e)∨aq [c]=true:=by
 cases c with
 | sl e=>exact .inl ⟨e,rfl⟩
 | _=>exact .inr rfl
theorem eY {c:CT} {cs:List CT} :aq (c::cs)=(aq [c] && aq cs):=by
 cases c<;>rfl
theorem dP {c:CT} {cs:List CT} (hc:aq [c]=true):aB (c::cs)=aB cs:=by
 cases c with
 | sl e=>simp [aq] at hc
 | _=>rfl
theorem dQ:∀ {cs:List CT},aB cs=0→aq cs=true
 | [],_=>rfl
 | c::cs,h=>by
  rcases cU c with ⟨e,rfl⟩ | hc
  ·simp [aB] at h
  ·rw[dP hc] at h
   rw[eY,hc,dQ h]
   rfl
theorem dO:∀(a b:List CT),aB (a++b)=aB a+aB b
 | [],b=>by simp [aB]
 | c::cs,b=>by
  rcases cU c with ⟨e,rfl⟩ | hc
  ·simp only[List.cons_append,aB,dO cs b];omega
  ·rw[List.cons_append,dP hc,dP hc,dO cs b]
theorem flat_get:∀ {cs:List CT} {k:Nat} {e:List CT},aq cs=true→cs[k]? =some (.sl e)→False
 | [],k,e,_,h=>by simp at h
 | c::cs,k,e,hf,h=>by
  rw[eY,Bool.and_eq_true] at hf
  cases k with
  | zero=>
   simp only[List.getElem?_cons_zero,Option.some.injEq] at h
   subst h
   simp [aq] at hf
  | succ k=>exact flat_get hf.2 (by simpa using h)
section
variable {w:World}
theorem ab.length {hv:Option Value} :∀(cs:List CT) (ts:List TypeId) (ds:List DC) (us:List Value) (mb:List Nat),ab w hv cs ts ds us mb→us.length=cs.length∧ds.length=cs.length
 | [],_,_,_,_,h=>by
  simp only[ab] at h
  obtain⟨_,rfl,rfl,_⟩:=h
  exact⟨rfl,rfl⟩
 | c::cs,_,_,_,_,h=>by
  rcases cU c with ⟨e,rfl⟩ | hc
  ·simp only[ab] at h
   obtain⟨t,dB,rows,aW,v,aL,m1,fQ,rfl,rfl,rfl,_,_,h6,rfl⟩:=h
   have:=ab.length cs _ _ _ _ h6
   simp [this.1,this.2]
  ·rw[ab.flat hc] at h
   obtain⟨d,aW,v,aL,rfl,rfl,_,h4⟩:=h
   have:=ab.length cs _ _ _ _ h4
   simp [this.1,this.2]
theorem ab.lt {hv:Option Value} :∀(cs:List CT) (ts:List TypeId) (ds:List DC) (us:List Value) (mb:List Nat),ab w hv cs ts ds us mb→∀b∈mb,b<w.heap.size
 | [],_,_,_,_,h=>by
  simp only[ab] at h
  simp [h.2.2.2]
 | c::cs,_,_,_,_,h=>by
  rcases cU c with ⟨e,rfl⟩ | hc
  ·simp only[ab] at h
   obtain⟨t,dB,rows,aW,v,aL,m1,fQ,rfl,rfl,rfl,_,h5,h6,rfl⟩:=h
   intro b hb
   rcases List.mem_append.1 hb with hb | hb
   ·cases hv with
    | none=>
     obtain⟨vals,aA,g1,_,rfl⟩:=h5
     exact g1.lt b hb
    | some v0=>
     rw[h5.2.2] at hb
     simp at hb
   ·exact ab.lt cs _ _ _ _ h6 b hb
  ·rw[ab.flat hc] at h
   obtain⟨d,aW,v,aL,rfl,rfl,_,h4⟩:=h
   exact ab.lt cs _ _ _ _ h4
theorem bG.lt {e:List CT} {ts:List TypeId} {rows:List (List DC)} {vals:List Value} {hv:Nat→Option Value} {aR:List (List Nat)} (h:bG w e ts rows vals hv aR):∀b∈aR.flatten,b<w.heap.size:=by
 intro b hb
 obtain⟨m,hm,hb⟩:=List.mem_flatten.1 hb
 obtain⟨i,hi,rfl⟩:=List.getElem_of_mem hm
 have dI:i<rows.length:=by have:=h.1;omega
 exact ab.lt _ _ _ _ _ (h.2 i rows[i] aR[i] (by simp) (by simp)) b hb
theorem ab.split {hv:Option Value} :∀(Aq kU:List CT) (ts:List TypeId) (ds:List DC) (us:List Value) (mb:List Nat),ab w hv (Aq++kU) ts ds us mb→
  ∃F_ HJ m1 m2,ts=F_++HJ∧mb=m1++m2∧ab w hv Aq F_ (ds.take Aq.length) (us.take Aq.length) m1∧ab w hv kU HJ (ds.drop Aq.length) (us.drop Aq.length) m2
 | [],kU,ts,ds,us,mb,h=>⟨[],ts,[],mb,rfl,rfl,by simp [ab],by simpa using h⟩
 | c::cs,kU,_,_,_,_,h=>by
  rw[List.cons_append] at h
  rcases cU c with ⟨e,rfl⟩ | hc
  ·simp only[ab] at h
   obtain⟨t,dB,rows,aW,v,aL,m1,fQ,rfl,rfl,rfl,h4,h5,h6,rfl⟩:=h
   obtain⟨a1,a2,b1,b2,rfl,rfl,k1,k2⟩:=ab.split cs kU _ _ _ _ h6
   refine⟨t::a1,a2,m1++b1,b2,rfl,by simp, ?_,by simpa using k2⟩
   simp only[ab,List.length_cons,List.take_succ_cons]
   exact⟨t,a1,rows,_,v,_,m1,b1,rfl,rfl,rfl,h4,h5,k1,rfl⟩
  ·rw[ab.flat hc] at h
   obtain⟨d,aW,v,aL,rfl,rfl,h3,h4⟩:=h
   obtain⟨a1,a2,b1,b2,rfl,rfl,k1,k2⟩:=ab.split cs kU _ _ _ _ h4
   refine⟨a1,a2,b1,b2,rfl,rfl, ?_,by simpa using k2⟩
   rw[ab.flat hc]
   simp only[List.length_cons,List.take_succ_cons]
   exact⟨d,_,v,_,rfl,rfl,h3,k1⟩
theorem ab.join {hv:Option Value} :∀(Aq kU:List CT) (F_ HJ:List TypeId) (d1 d2:List DC) (u1 u2:List Value) (m1 m2:List Nat),ab w hv Aq F_ d1 u1 m1→ab w hv kU HJ d2 u2 m2→
  ab w hv (Aq++kU) (F_++HJ) (d1++d2) (u1++u2) (m1++m2)
 | [],kU,_,_,_,_,_,_,_,_,h,h2=>by
  simp only[ab] at h
  obtain⟨rfl,rfl,rfl,rfl⟩:=h
  simpa using h2
 | c::cs,kU,_,_,_,_,_,_,_,_,h,h2=>by
  rcases cU c with ⟨e,rfl⟩ | hc
  ·simp only[ab] at h
   obtain⟨t,dB,rows,aW,v,aL,m1,fQ,rfl,rfl,rfl,h4,h5,h6,rfl⟩:=h
   simp only[List.cons_append,ab]
   exact⟨t,_,rows,_,v,_,m1,_,rfl,rfl,rfl,h4,h5,ab.join cs kU _ _ _ _ _ _ _ _ h6 h2,by simp⟩
  ·rw[ab.flat hc] at h
   obtain⟨d,aW,v,aL,rfl,rfl,h3,h4⟩:=h
   simp only[List.cons_append]
   rw[ab.flat hc]
   exact⟨d,_,v,_,rfl,rfl,h3,ab.join cs kU _ _ _ _ _ _ _ _ h4 h2⟩
theorem ab.Cz {hv:Option Value} :∀(cs:List CT) (ds:List DC) (us:List Value) (fp:List Nat),aq cs=true→aZ w cs ds (fun j=>us[j]?) fp→us.length=cs.length→ab w hv cs [] ds us []
 | [],ds,us,fp,_,h,hl=>by
  simp only[aZ] at h
  simp only[ab]
  exact⟨trivial,h.1,by simpa using hl,trivial⟩
 | c::cs,ds,us,fp,hf,h,hl=>by
  rw[eY,Bool.and_eq_true] at hf
  simp only[aZ] at h
  obtain⟨d,r',v,f1,f2,rfl,h0,h1,h2,rfl⟩:=h
  cases us with
  | nil=>simp at hl
  | cons u us=>
   simp only[List.getElem?_cons_zero,Option.some.injEq] at h0
   subst h0
   rw[ab.flat hf.1]
   refine⟨d,r',u,us,rfl,rfl, ?_,ab.Cz cs r' us f2 hf.2 (by simpa using h2) (by simpa using hl)⟩
   have hz:f1=[]:=dC.lH [c] [d] (fun _=>some u) f1 hf.1 (by simp only[aZ];exact⟨d,[],u,f1,[],rfl,rfl,h1,by simp,by simp⟩)
   subst hz
   exact h1
theorem ab.toFlat {hv:Option Value} :∀(cs:List CT) (ts:List TypeId) (ds:List DC) (us:List Value) (mb:List Nat),aq cs=true→ab w hv cs ts ds us mb→ts=[]∧mb=[]∧aZ w cs ds (fun j=>us[j]?) []
 | [],_,_,_,_,_,h=>by
  simp only[ab] at h
  obtain⟨rfl,rfl,rfl,rfl⟩:=h
  exact⟨rfl,rfl,by simp [aZ]⟩
 | c::cs,_,_,_,_,hf,h=>by
  rw[eY,Bool.and_eq_true] at hf
  rw[ab.flat hf.1] at h
  obtain⟨d,aW,v,aL,rfl,rfl,h3,h4⟩:=h
  obtain⟨k1,k2,k3⟩:=ab.toFlat cs _ _ _ _ hf.2 h4
  refine⟨k1,k2, ?_⟩
  simp only[aZ]
  exact⟨d,aW,v,[],[],rfl,rfl,h3,by simpa using k3,rfl⟩
theorem ab.AV {hv hv':Option Value} {cs:List CT} {ts:List TypeId} {ds:List DC} {us:List Value} {mb:List Nat} (hf:aq cs=true) (h:ab w hv cs ts ds us mb):ab w hv' cs ts ds us mb:=by
 obtain⟨rfl,rfl,k3⟩:=ab.toFlat _ _ _ _ _ hf h
 exact ab.Cz _ _ _ _ hf k3 (ab.length _ _ _ _ _ h).1
theorem ab.out:∀(e:List CT) (off:Nat) (e':List CT) (ts:List TypeId) (r:List DC) (us:List Value) (m:List Nat),e[off]? =some (.sl e')→aB e=1→ab w none e ts r us m→
  ∃t1 v rws,ts=[t1]∧us[off]? =some v∧r[off]? =some (.sl rws)∧aq e'=true∧JL w none t1 e' rws v m∧ab w (some v) e [t1] r us []
 | [],_,_,_,_,_,_,h,_,_=>by simp at h
 | c::cs,off,e',_,_,_,_,h,hn,hc=>by
  rcases cU c with ⟨e,rfl⟩ | hf
  ·simp only[aB] at hn
   have eb:aq cs=true:=dQ (by omega)
   cases off with
   | zero=>
    simp only[List.getElem?_cons_zero,Option.some.injEq,CT.sl.injEq] at h
    subst h
    simp only[ab] at hc
    obtain⟨t,dB,rows,aW,v,aL,m1,fQ,rfl,rfl,rfl,h4,h5,h6,rfl⟩:=hc
    obtain⟨rfl,rfl,_⟩:=ab.toFlat _ _ _ _ _ eb h6
    have ba:v.oneCell'=true:=by
     obtain⟨vals,aA,g1,_⟩:=h5
     exact g1.one
    refine⟨t,v,rows,rfl,rfl,rfl,h4,by simpa using h5, ?_⟩
    simp only[ab]
    exact⟨t,[],rows,aW,v,aL,[],[],rfl,rfl,rfl,h4,⟨rfl,ba,rfl⟩,ab.AV eb h6,rfl⟩
   | succ k=>exact (flat_get eb (by simpa using h)).elim
  ·cases off with
   | zero=>
    simp only[List.getElem?_cons_zero,Option.some.injEq] at h
    subst h
    simp [aq] at hf
   | succ k=>
    rw[ab.flat hf] at hc
    obtain⟨d,aW,v,aL,rfl,rfl,h3,h4⟩:=hc
    rw[dP hf] at hn
    obtain⟨t1,v1,rws,rfl,k1,k2,k3,k4,k5⟩:=ab.out cs k e' _ _ _ _ (by simpa using h) hn h4
    refine⟨t1,v1,rws,rfl,by simpa using k1,by simpa using k2,k3,k4, ?_⟩
    rw[ab.flat hf]
    exact⟨d,aW,v,aL,rfl,rfl,h3,k5⟩
theorem CG {c:CT} {cs:List CT} (hc:aq [c]=true):dW (c::cs)=dW cs+1:=by
 cases c with
 | sl e=>simp [aq] at hc
 | _=>rfl
theorem ab.back {v:Value} {rws:List (List DC)} {m1:List Nat} :∀(e:List CT) (e':List CT) (t1:TypeId) (r:List DC) (us:List Value) (m:List Nat),e[dW e]? =some (.sl e')→aB e=1→ab w (some v) e [t1] r us m→
  JL w none t1 e' rws v m1→ab w none e [t1] (bP r (dW e) [.sl rws]) us m1
 | [],_,_,_,_,_,h,_,_,_=>by simp [dW] at h
 | c::cs,e',t1,_,_,_,h,hn,hc,hs=>by
  rcases cU c with ⟨e,rfl⟩ | hf
  ·simp only[aB] at hn
   have eb:aq cs=true:=dQ (by omega)
   simp only[dW,List.getElem?_cons_zero,Option.some.injEq,CT.sl.injEq] at h
   subst h
   simp only[ab] at hc
   obtain⟨t,dB,rows,aW,v',aL,ML,fQ,h1,rfl,rfl,h4,⟨rfl,ba,rfl⟩,h6,rfl⟩:=hc
   simp only[List.cons.injEq] at h1
   obtain⟨rfl,rfl⟩:=h1
   obtain⟨_,rfl,_⟩:=ab.toFlat _ _ _ _ _ eb h6
   simp only[dW,bP,ab]
   exact⟨t1,[],rws,aW,v',aL,m1,[],rfl,by simp,rfl,h4,hs,ab.AV eb h6,by simp⟩
  ·rw[CG hf] at h ⊢
   rw[ab.flat hf] at hc ⊢
   obtain⟨d,aW,v',aL,rfl,rfl,h3,h4⟩:=hc
   rw[dP hf] at hn
   refine⟨d,bP aW (dW cs) [.sl rws],v',aL, ?_,rfl,h3,ab.back cs e' t1 _ _ _ (by simpa using h) hn h4 hs⟩
   have e1:dW cs+1+([DC.sl rws]:List DC).length=(dW cs+([DC.sl rws]:List DC).length)+1:=by omega
   simp only[bP,e1,List.take_succ_cons,List.drop_succ_cons,List.cons_append]
theorem Ay {α:Type} (l nu:List α) (p j:Nat) (h:p+nu.length≤l.length):(l.take p++(nu++l.drop (p+nu.length)))[j]? =if j<p then l[j]? else if j<p+nu.length then nu[j - p]? else l[j]? :=by
 have ht:(l.take p).length=p:=by simp;omega
 split
 ·rename_i hj
  rw[List.getElem?_append_left (by omega),List.getElem?_take,if_pos hj]
 ·rename_i hj
  rw[List.getElem?_append_right (by omega),ht]
  split
  ·rw[List.getElem?_append_left (by omega)]
  ·rw[List.getElem?_append_right (by omega),List.getElem?_drop]
   congr 1
   omega
theorem Fg {α:Type} (vals nu:List α) (i off el:Nat) (iR:off+nu.length≤el) (hl:i*el+el≤vals.length):
  ((vals.take (i*el+off)++(nu++vals.drop (i*el+off+nu.length))).drop (i*el)).take el=((vals.drop (i*el)).take el).take off++(nu++((vals.drop (i*el)).take el).drop (off+nu.length)):=by
 apply List.ext_getElem?
 intro j
 rw[Ay _ _ _ _ (by simp;omega),List.getElem?_take,List.getElem?_drop,Ay _ _ _ _ (by omega)]
 simp only[List.getElem?_take,List.getElem?_drop]
 by_cases hj:j<el
 ·rw[if_pos hj,if_pos hj]
  by_cases h1:j<off
  ·rw[if_pos (by omega),if_pos h1]
  ·rw[if_neg (by omega),if_neg h1]
   by_cases h2:j<off+nu.length
   ·rw[if_pos (by omega),if_pos h2]
    congr 1
    omega
   ·rw[if_neg (by omega),if_neg h2]
 ·rw[if_neg hj,if_neg hj,if_neg (by omega),if_neg (by omega)]
theorem DF {α:Type} (vals nu:List α) (i off el k:Nat) (iR:off+nu.length≤el) (hl:i*el+el≤vals.length) (hk:k≠i):
  ((vals.take (i*el+off)++(nu++vals.drop (i*el+off+nu.length))).drop (k*el)).take el=(vals.drop (k*el)).take el:=by
 apply List.ext_getElem?
 intro j
 rw[List.getElem?_take,List.getElem?_drop,Ay _ _ _ _ (by omega),List.getElem?_take,List.getElem?_drop]
 by_cases hj:j<el
 ·rw[if_pos hj,if_pos hj]
  rcases Nat.lt_or_ge k i with cl | Ev
  ·have:k*el+el≤i*el:=by rw[←Nat.succ_mul];exact Nat.mul_le_mul_right _ cl
   rw[if_pos (by omega)]
  ·have:i*el+el≤k*el:=by rw[←Nat.succ_mul];exact Nat.mul_le_mul_right _ (by omega)
   rw[if_neg (by omega),if_neg (by omega)]
 ·rw[if_neg hj,if_neg hj]
theorem bG.set {w w':World} {e:List CT} {ts:List TypeId} {rows:List (List DC)} {vals:List Value} {hv hv':Nat→Option Value} {aR:List (List Nat)} (h:bG w e ts rows vals hv aR) (hs:w.heap.size≤w'.heap.size) (hl:vals.length=rows.length*e.length)
  {i off:Nat} (hi:i<rows.length) {nu:List Value} (iR:off+nu.length≤e.length) {r:List DC} {m:List Nat} (hm:∀j,j≠i→∀m',aR[j]? =some m'→∀b∈m',w'.heap[b]? =w.heap[b]?)
  (hh:∀j,j≠i→hv' j=hv j) (hr:ab w' (hv' i) e ts r (((vals.drop (i*e.length)).take e.length).take off++(nu++((vals.drop (i*e.length)).take e.length).drop (off+nu.length))) m):
  bG w' e ts (rows.set i r) (vals.take (i*e.length+off)++(nu++vals.drop (i*e.length+off+nu.length))) hv' (aR.set i m):=by
 have Ex:i*e.length+e.length≤vals.length:=by rw[hl,←Nat.succ_mul];exact Nat.mul_le_mul_right _ hi
 refine⟨by simp [h.1],fun k r' m' hk FI=> ?_⟩
 by_cases mW:k=i
 ·subst mW
  rw[List.getElem?_set_self hi,Option.some.injEq] at hk
  rw[List.getElem?_set_self (by rw[h.1];exact hi),Option.some.injEq] at FI
  subst hk FI
  rw[Fg _ _ _ _ _ iR Ex]
  exact hr
 ·rw[List.getElem?_set_ne (Ne.symm mW)] at hk FI
  rw[DF _ _ _ _ _ _ iR Ex mW,hh k mW]
  exact ab.mono hs _ _ _ _ _ (h.2 k r' m' hk FI) (hm k mW m' FI)
end
end Go.Proofs.YtoaflbnkiobhdaaGreat.Vm
set_option linter.unusedVariables false
set_option linter.unusedSimpArgs false
namespace Go.Proofs.YtoaflbnkiobhdaaGreat.Vm
def Env.fe (β:Env) (id:Nat) (l:List Nat):Env:=⟨β.cS,β.val,β.gv,az β.nb id l⟩
def Env.fV (β:Env) (id:Nat) (v:Value) (l:List Nat):Env:=⟨β.cS,az β.val id v,β.gv,az β.nb id l⟩
section
variable {P:Program} {Γ:Ctx} {w0:World} {S:Own} {st:St} {o:Oper} {e:cF} {a:Act} {w w':World}
variable {f:Nat→SV} {h:Nat→Option aj} {β:Env} {φ:Nat→List Nat} {tm:Array Value}
theorem Core.Dg (hc:Core w0 S f h β φ tm w) {id:Nat} {ob:aj} {t:TypeId} {ct:List CT} {ts:List TypeId} {rows:List (List DC)} {hl:Option (Nat×Nat)} {Fw:List Nat} {G:Nat→Prop} {h':Nat→Option aj}
  (dJ:h id=some ob) (hG:∀k,G k→k≠id) (hh:h' id=some (.deep t ct ts rows hl)) (Du:∀j,j≠id→∀x,h' j=some x→h j=some x∧¬G j)
  (hs:w.heap.size≤w'.heap.size) (hw:∀b,b<w.heap.size→b ∉ (β.val id).ownBlock.toList→w'.heap[b]? =w.heap[b]?)
  (aY:∀b∈(β.val id).ownBlock.toList,b∈al β id ob)
  (ja:∀b∈Fw,b∈al β id ob∨∃k x,G k∧h k=some x∧b∈al β k x)
  (gP:fH w' (Av h' (β.fe id Fw)) (β.fe id Fw) id (.deep t ct ts rows hl) ((β.val id).ownBlock.toList++Fw)) (hnd:((β.val id).ownBlock.toList++Fw).Nodup):
  Core w0 S f h' (β.fe id Fw) (az φ id ((β.val id).ownBlock.toList++Fw)) tm w':=by
 have iS:∀j oj,j≠id→al (β.fe id Fw) j oj=al β j oj:=by
  intro j oj hj
  cases oj<;>simp [al,Env.fe,az,hj]
 have EC:∀b∈(β.val id).ownBlock.toList++Fw,b∈al β id ob∨∃k x,G k∧h k=some x∧b∈al β k x:=by
  intro b hb
  rcases List.mem_append.1 hb with hb | hb
  ·exact .inl (aY b hb)
  ·exact ja b hb
 have bC:∀b∈(β.val id).ownBlock.toList++Fw,((w0.heap.size≤b∨S b)∧b<w.heap.size)∧Av h β b∧∀j oj,j≠id→h j=some oj→¬G j→b ∉ φ j:=by
  intro b hb
  rcases EC b hb with h1 | ⟨k,x,hk,hx,h1⟩
  ·have h2:=ah (hc.ay id ob dJ) b h1
   exact⟨(hc.fresh id ob dJ).2 b h2,.inl ⟨id,ob,dJ,h1⟩,fun j oj hj iQ _=>hc.sep id j ob oj (Ne.symm hj) dJ iQ b h2⟩
  ·have h2:=ah (hc.ay k x hx) b h1
   exact⟨(hc.fresh k x hx).2 b h2,.inl ⟨k,x,hx,h1⟩,fun j oj hj iQ hg=>hc.sep k j x oj (fun e=>hg (e ▸ hk)) hx iQ b h2⟩
 refine hc.mi (fun _=>False) hs (fun b hb hn=>hw b hb (fun hx=>hn (.inl ⟨id,ob,dJ,aY b hx⟩))) ?_ (fun _ _ _ h=>h) (fun _ _=>⟨rfl,rfl⟩) ?_ ?_
 ·rintro b (⟨j,oj,hj,bn⟩ | hb)
  case inr=>exact .inl (.inr hb)
  by_cases b_:j=id
  ·subst b_
   rw[hh,Option.some.injEq] at hj
   subst hj
   refine .inl (bC b ?_).2.1
   simpa [al,Env.fe,az] using bn
  ·rw[iS j oj b_] at bn
   exact .inl (.inl ⟨j,oj,(Du j b_ oj hj).1,bn⟩)
 ·intro j oj hj
  by_cases b_:j=id
  ·subst b_
   rw[hh,Option.some.injEq] at hj
   subst hj
   refine .inr ⟨by simpa [az] using gP,by simpa [az] using hnd,fun b hb=> ?_⟩
   have:=(bC b (by simpa [az] using hb)).1
   exact⟨this.1,by omega⟩
  ·have h1:=(Du j b_ oj hj).1
   refine .inl ⟨fun h=>h,h1,by simp [Env.fe,az,b_],by simp [az,b_],fun _ _ h=>h,fun b hb=> ?_⟩
   have fj:=ah (hc.ay j oj h1) b hb
   exact hw b ((hc.fresh j oj h1).2 b fj).2 (fun hx=>hc.sep id j ob oj (Ne.symm b_) dJ h1 b (ah (hc.ay id ob dJ) b (aY b hx)) fj)
 ·intro i j oi oj cI hi hj b hb
  by_cases kY:i=id
  ·subst kY
   have gg:j≠i:=Ne.symm cI
   simp only[az,if_true] at hb
   simp only[az,gg,if_false]
   obtain⟨h1,h2⟩:=Du j gg oj hj
   exact (bC b hb).2.2 j oj gg h1 h2
  ·simp only[az,kY,if_false] at hb
   obtain⟨h1,h2⟩:=Du i kY oi hi
   by_cases b_:j=id
   ·subst b_
    simp only[az,if_true]
    exact fun ax=>(bC b ax).2.2 i oi kY h1 h2 hb
   ·simp only[az,b_,if_false]
    exact hc.sep i j oi oj cI h1 (Du j b_ oj hj).1 b hb
theorem CO (hR:Rel w0 S st a w) (hd:∀d,o.dst=some d→a_ st.n d) {c:Call} {x:Operand} {t:TypeId} (ho:o.op= .call c) (hb:c.callee= .builtin .len)
  (hx:c.args= #[x]) (ht:c.argTypes= #[t]) {sx:SV} (h1:(bZ x).val st.get st.obj=some sx) (he:(HB P t sx).val st.get st.obj=some e):Good P w0 S st o e a w:=by
 unfold HB at he
 split at he
 ·rename_i id
  simp only[M.aS,Option.bind_eq_some_iff] at he
  obtain⟨ob,aJ,he⟩:=he
  split at he
  ·rename_i t' ct ts r hl
   split at he
   ·rename_i et hu
    simp only[M.aa,Option.some.injEq] at he
    subst he
    refine ao hR hd rfl rfl fun β φ hc=> ?_
    have hv:=hc.ev h1
    simp only[ak] at hv
    obtain⟨vals,aR,aY,_⟩:=hc.ay id _ aJ
    have key:∃q cap,β.val id= .slice q r.length cap∧r.length≤maxLen:=by
     rcases aY.2 with ⟨hv',h0,_⟩ | ⟨g,cap,cur,hv',_,AA,hm,_⟩
     ·exact⟨none,0,by rw[hv',h0],by omega⟩
     ·exact⟨_,cap,hv',by omega⟩
    obtain⟨q,cap,hq,hm⟩:=key
    refine⟨.int .i64 r.length, ?_,by unfold ak;exact⟨rfl,AL hm⟩⟩
    simp [execOp,ho,resolve,hb,hx,ht,invoke,builtin,hv.1,hq,Builtin.len_,run_underlying hu,goInt]
   ·simp at he
  ·refine Ag hR hd ho hb hx ht h1 ?_
   exact he
 ·exact Ag hR hd ho hb hx ht h1 he
theorem kr (hR:Rel w0 S st a w) (hd:∀d,o.dst=some d→a_ st.n d) {t:TypeId} {x i:Operand} (ho:o.op= .indexAddr t x i) {sx si:SV}
  (h1:(bZ x).val st.get st.obj=some sx) (h2:(bZ i).val st.get st.obj=some si) (he:(iT P t sx si).val st.get st.obj=some e) (aI:e.ok=true):Good P w0 S st o e a w:=by
 unfold iT at he
 split at he
 ·rename_i id
  simp only[M.aS,Option.bind_eq_some_iff] at he
  obtain⟨ob,aJ,he⟩:=he
  split at he
  ·rename_i t' ct ts r hl
   split at he
   ·rename_i et k n hu
    cases hz:aX P et ct.length
    ·simp [hz] at he
    simp only[hz,cond_true,M.aa,Option.some.injEq] at he
    subst he
    simp only[Bool.and_eq_true,decide_eq_true_eq] at aI
    obtain⟨i',hi,dm⟩:=aV hz
    refine ao hR hd rfl rfl fun β φ hc=> ?_
    have hv:=hc.ev h1
    have Gm:=hc.ev h2
    simp only[ak] at hv Gm
    obtain⟨vals,aR,aY,_⟩:=hc.ay id _ aJ
    rcases aY.2 with ⟨_,h0,_⟩ | ⟨g,cap,cur,hv',_⟩
    ·omega
    ·refine⟨.pointer (some ⟨g,0+n.toNat*i'.size,none⟩), ?_, ?_⟩
     ·simp [execOp,ho,hv.1,hv',Gm.1,Instr.indexAt,asIntOf,run_underlying hu,aI.1,aI.2,sizeOf,typeInfo,hi,de]
     ·simp only[ak]
      exact⟨g,by rw[hv'];rfl,by rw[dm];simp⟩
   ·simp at he
  ·exact gz hR hd ho h1 h2 he aI
 ·exact gz hR hd ho h1 h2 he aI
theorem Ed (hc:Core w0 S f h β φ tm w) {id:Nat} {t:TypeId} {ct:List CT} {ts:List TypeId} {rows:List (List DC)} {hl:Option (Nat×Nat)} (aJ:h id=some (.deep t ct ts rows hl)) {i:Nat} (hi:i<rows.length) {g:Nat} (hg:(β.val id).ownBlock=some g):
  ∃(us:List Value) (m:List Nat),ab w (gQ β hl i) ct ts (rows.getD i []) us m∧us.length=ct.length∧∀j u,us[j]? =some u→w.cell? ⟨g,i*ct.length+j,none⟩=some u:=by
 obtain⟨vals,aR,aY,c3,_,_⟩:=hc.ay id _ aJ
 have hf:i<aR.length:=by rw[c3.1];exact hi
 have er:=c3.2 i (rows.getD i []) aR[i] (cz hi) (by simp)
 exact⟨_,_,er,(ab.length _ _ _ _ _ er).1,fun j u hj=>aY.cell hg (fG hj)⟩
theorem ab.get {hv:Option Value} :∀(cs:List CT) (ts:List TypeId) (r:List DC) (us:List Value) (m:List Nat) (k:Nat) (c:CT),ab w hv cs ts r us m→cs[k]? =some c→aq [c]=true→
  ∃v,us[k]? =some v∧bU w c (r.getD k default) v []
 | [],_,_,_,_,_,_,_,hk,_=>by simp at hk
 | c0::cs,_,_,_,_,k,c,h,hk,hf=>by
  rcases cU c0 with ⟨e,rfl⟩ | hc
  ·simp only[ab] at h
   obtain⟨t,dB,rows,aW,v,aL,m1,fQ,rfl,rfl,rfl,_,_,h6,rfl⟩:=h
   cases k with
   | zero=>
    simp only[List.getElem?_cons_zero,Option.some.injEq] at hk
    subst hk
    simp [aq] at hf
   | succ k=>
    obtain⟨v',h1,h2⟩:=ab.get cs _ _ _ _ k c h6 (by simpa using hk) hf
    exact⟨v',by simpa using h1,by simpa using h2⟩
  ·rw[ab.flat hc] at h
   obtain⟨d,aW,v,aL,rfl,rfl,h3,h4⟩:=h
   cases k with
   | zero=>
    simp only[List.getElem?_cons_zero,Option.some.injEq] at hk
    subst hk
    exact⟨v,by simp,by simpa using h3⟩
   | succ k=>
    obtain⟨v',h1,h2⟩:=ab.get cs _ _ _ _ k c h4 (by simpa using hk) hf
    exact⟨v',by simpa using h1,by simpa using h2⟩
theorem ab.bK {hv:Option Value} {av:Nat→Prop} {cs:List CT} {ts:List TypeId} {r:List DC} {us:List Value} {m:List Nat} (h:ab w hv cs ts r us m):
  ∀(n k:Nat),k+n≤cs.length→aq ((cs.drop k).take n)=true→∃vs:List Value,vs.length=n∧(∀j v,vs[j]? =some v→us[k+j]? =some v)∧af w av β (cb ((cs.drop k).take n) r k) vs∧∀x∈vs,x.oneCell'=true
 | 0,k,_,_=>⟨[],rfl,by simp,by simp [cb,af],by simp⟩
 | n+1,k,hk,hf=>by
  have cl:k<cs.length:=by omega
  have Ih:(cs.drop k).take (n+1)=cs[k]::(cs.drop (k+1)).take n:=by
   rw[List.drop_eq_getElem_cons cl,List.take_succ_cons]
  rw[Ih,eY,Bool.and_eq_true] at hf
  obtain⟨v,e1,e2⟩:=ab.get cs ts r us m k cs[k] h (by simp) hf.1
  obtain⟨vs,l1,l2,l3,l4⟩:=ab.bK h n (k+1) (by omega) hf.2
  refine⟨v::vs,by simp [l1], ?_, ?_, ?_⟩
  ·intro j u hj
   cases j with
   | zero=>simp at hj;subst hj;simpa using e1
   | succ j=>have:=l2 j u (by simpa using hj);rw[←this];congr 1;omega
  ·rw[Ih]
   simp only[cb,af]
   exact⟨v,vs,rfl,c5 e2 (by simp),l3⟩
  ·intro x hx
   rcases List.mem_cons.1 hx with rfl | hx
   ·exact e2.one
   ·exact l4 x hx
theorem BP (hR:Rel w0 S st a w) (hd:∀d,o.dst=some d→a_ st.n d) {t:TypeId} {x:Operand} (ho:o.op= .load t x) {id i z off:Nat} {t':TypeId} {ct:List CT} {ts:List TypeId} {rows:List (List DC)} {hl:Option (Nat×Nat)}
  (h1:(bZ x).val st.get st.obj=some (.dU id i z off)) (aJ:st.obj id=some (.deep t' ct ts rows hl)) (he:(E8 P t i z off ct rows).val st.get st.obj=some e) (aI:e.ok=true):Good P w0 S st o e a w:=by
 unfold E8 at he
 cases hz:Nat.beq z ct.length
 ·simp [hz] at he
 have I6:=Nat.eq_of_beq_eq_true hz
 simp only[hz,Bool.not_true,cond_false] at he
 split at he
 ·simp at he
 rename_i td hu
 have reads:∀β φ,Core w0 S st.get st.obj β φ a.tmps w→i<rows.length→∃g us m,a.eval x= .pointer (some ⟨g,i*ct.length+off,none⟩)∧ab w (gQ β hl i) ct ts (rows.getD i []) us m∧
   ∀j u,us[j]? =some u→w.cell? ⟨g,i*ct.length+j,none⟩=some u:=by
  intro β φ hc hi
  have hx:=hc.ev h1
  simp only[ak] at hx
  obtain⟨g,hg,hv⟩:=hx
  obtain⟨us,m,k1,_,k3⟩:=Ed hc aJ hi hg
  exact⟨g,us,m,by rw[hv,I6],k1,k3⟩
 cases ha:bf P t
 ·simp only[ha,cond_false] at he
  split at he
  ·rename_i c AA
   cases hf:aq [c]
   ·simp [hf] at he
   simp only[hf,cond_true,M.aa,Option.some.injEq] at he
   subst he
   have hi:i<rows.length:=by simpa using aI
   refine ao hR hd rfl rfl fun β φ hc=> ?_
   obtain⟨g,us,m,hv,hr,hcell⟩:=reads β φ hc hi
   obtain⟨v,e1,e2⟩:=ab.get _ _ _ _ _ _ _ hr AA hf
   refine⟨v, ?_,c5 e2 (by simp)⟩
   simp [execOp,ho,hv,dN ha hu (hcell _ _ e1)]
  ·simp at he
 ·simp only[ha,cond_true] at he
  split at he
  ·rename_i j hj
   cases I7:Nat.ble (off+j.size) ct.length && aq ((ct.drop off).take j.size)
   ·simp [I7] at he
   simp only[I7,cond_true,M.aa,Option.some.injEq] at he
   subst he
   simp only[Bool.and_eq_true] at I7
   have hi:i<rows.length:=by simpa using aI
   have hle:=Nat.le_of_ble_eq_true I7.1
   refine ao hR hd rfl rfl fun β φ hc=> ?_
   obtain⟨g,us,m,hv,hr,hcell⟩:=reads β φ hc hi
   obtain⟨vs,l1,l2,l3,l4⟩:=ab.bK (β:=β) (av:=Av st.obj β) hr j.size off hle I7.2
   refine⟨.agg vs.toArray, ?_, ?_⟩
   ·have:∀k v,vs[k]? =some v→w.cell? ⟨g,(i*ct.length+off)+k,none⟩=some v:=fun k v hk=>by
     rw[Nat.add_assoc]
     exact hcell _ _ (l2 k v hk)
    simp [execOp,ho,hv,dM ha hj l1 this]
   ·simp only[ak]
    exact⟨vs,rfl,l3,l4⟩
  ·simp at he
theorem Au {aR:List (List Nat)} {i:Nat} (hi:i<aR.length):∀b∈(aR.set i []).flatten,b∈aR.flatten:=by
 intro b hb
 rw[bS hi] at hb
 rw[br hi]
 simp only[List.nil_append,List.mem_append] at hb ⊢
 rcases hb with hb | hb<;>simp [hb]
theorem Ai (hR:Rel w0 S st a w) {d:Nat} (bL:bu st d) {β:Env} {φ:Nat→List Nat} (hc:Core w0 S st.get st.obj β φ a.tmps w) {id i off g:Nat} {t' t1:TypeId} {ct e':List CT} {rows:List (List DC)}
  (hg:(β.val id).ownBlock=some g) (aJ:st.obj id=some (.deep t' ct [t1] rows none)) (iR:ct[off]? =some (.sl e')) (Cg:aB ct=1) (hi:i<rows.length):
  ∃(us:List Value) (v:Value) (β':Env) (φ':Nat→List Nat),us.length=ct.length∧(∀j u,us[j]? =some u→w.cell? ⟨g,i*ct.length+j,none⟩=some u)∧us[off]? =some v∧v.oneCell'=true∧ab w (some v) ct [t1] (rows.getD i []) us []∧β'.val (ag d 0)=v∧
   Core w0 S st.get (az (az st.obj id (some (.deep t' ct [t1] rows (some (i,ag d 0))))) (ag d 0) (some (.row t1 e' ((rows.getD i []).getD off default).cj false true))) β' φ' a.tmps w:=by
 have bC:ag d 0 / 64=d:=cK d 0 (by omega)
 generalize Mk:ag d 0=nid at*
 have cI:id≠nid:=fun e=>(bL.obj id _ aJ).1 (e ▸ bC)
 obtain⟨vals,aR,aY,c3,ja,ki⟩:=hc.ay id _ aJ
 have j_:i<aR.length:=by rw[c3.1];exact hi
 have er:=c3.2 i (rows.getD i []) aR[i] (cz hi) (by simp)
 obtain⟨MN,v,rws,JF,hv,IX,eb,ke,IK⟩:=ab.out ct off e' _ _ _ _ iR Cg er
 simp only[List.cons.injEq,and_true] at JF
 subst JF
 obtain⟨Ak,FD,Gv,KB,Gr⟩:=ke
 have KL:((rows.getD i []).getD off default).cj=rws:=by
  rw[List.getD_eq_getElem?_getD,IX]
  rfl
 rw[KL]
 have FW:=(hc.fresh id _ aJ).1
 rw[ki] at FW
 have jx:∀b∈v.ownBlock.toList,b∈aR.flatten:=by
  intro b hb
  rw[br j_,Gr]
  simp [hb]
 have Ia:∀b∈(β.val id).ownBlock.toList++aR.flatten,Av st.obj β b:=fun b hb=> .inl ⟨id,_,aJ,by simpa [al,ja] using hb⟩
 have m9:∀b∈(β.val id).ownBlock.toList++aR.flatten,b∈φ id:=fun b hb=>by rw[ki];exact hb
 have mX:∀b∈(β.val id).ownBlock.toList++(aR.set i []).flatten,b∈(β.val id).ownBlock.toList++aR.flatten:=by
  intro b hb
  rcases List.mem_append.1 hb with hb | hb
  ·exact List.mem_append_left _ hb
  ·exact List.mem_append_right _ (Au j_ b hb)
 have C4:∀b∈v.ownBlock.toList,b ∉ (β.val id).ownBlock.toList++(aR.set i []).flatten:=by
  intro b hb ig
  rw[br j_,List.nodup_append] at FW
  obtain⟨_,n2,n3⟩:=FW
  rw[List.nodup_append] at n2
  obtain⟨_,n4,n5⟩:=n2
  rw[List.nodup_append] at n4
  obtain⟨_,_,n6⟩:=n4
  rw[←Gr] at hb
  rcases List.mem_append.1 ig with ig | ig
  ·exact n3 b ig b (by simp [hb]) rfl
  ·rw[bS j_] at ig
   simp only[List.nil_append,List.mem_append] at ig
   rcases ig with ig | ig
   ·exact n5 b ig b (by simp [hb]) rfl
   ·exact n6 b hb b ig rfl
 have EH:((β.val id).ownBlock.toList++(aR.set i []).flatten).Nodup:=by
  refine List.Sublist.nodup ?_ FW
  refine (List.Sublist.refl _).append ?_
  rw[bS j_,br j_]
  exact (List.Sublist.refl _).append ((List.nil_sublist _).append (List.Sublist.refl _))
 have FU:v.ownBlock.toList.Nodup:=by cases v.ownBlock<;>simp
 let β':Env:=⟨β.cS,az β.val nid v,β.gv,az β.nb id (aR.set i []).flatten⟩
 have ER:β'.val id=β.val id:=by simp [β',az,cI]
 have jz:β'.val nid=v:=by simp [β',az]
 have IB:β'.nb id=(aR.set i []).flatten:=by simp [β',az]
 let h':Nat→Option aj:=az (az st.obj id (some (.deep t' ct [t1] rows (some (i,nid))))) nid (some (.row t1 e' rws false true))
 let φ':Nat→List Nat:=az (az φ id ((β.val id).ownBlock.toList++(aR.set i []).flatten)) nid v.ownBlock.toList
 have Bm:Core w0 S st.get h' β' φ' a.tmps w:=by
  have e1:h' nid=some (.row t1 e' rws false true):=by simp [h',az]
  have e2:h' id=some (.deep t' ct [t1] rows (some (i,nid))):=by simp [h',az,cI]
  have e3:∀j,j≠nid→j≠id→h' j=st.obj j:=fun j h1 h2=>by simp [h',az,h1,h2]
  have p1:φ' nid=v.ownBlock.toList:=by simp [φ',az]
  have p2:φ' id=(β.val id).ownBlock.toList++(aR.set i []).flatten:=by simp [φ',az,cI]
  have p3:∀j,j≠nid→j≠id→φ' j=φ j:=fun j h1 h2=>by simp [φ',az,h1,h2]
  have iS:∀j oj,j≠nid→j≠id→al β' j oj=al β j oj:=by
   intro j oj h1 h2
   cases oj<;>simp [al,β',az,h1,h2]
  have JW:∀b,Av h' β' b→Av st.obj β b:=by
   rintro b (⟨j,oj,hj,bn⟩ | hb)
   case inr=>exact .inr hb
   by_cases lS:j=nid
   ·subst lS
    rw[e1,Option.some.injEq] at hj
    subst hj
    exact Ia b (List.mem_append_right _ (jx b (by simpa [al,jz] using bn)))
   ·by_cases gg:j=id
    ·subst gg
     rw[e2,Option.some.injEq] at hj
     subst hj
     exact Ia b (mX b (by simpa only[al,ER,IB] using bn))
    ·rw[e3 j lS gg] at hj
     rw[iS j oj lS gg] at bn
     exact .inl ⟨j,oj,hj,bn⟩
  have bt:=(hc.fresh id _ aJ).2
  refine hc.mi (fun j=>j=nid) (Nat.le_refl _) (fun _ _ _=>rfl) (fun b hb=> .inl (JW b hb)) (fun k j hj e=>bL.slot k j hj (e ▸ bC)) (fun j hj=>⟨by simp [β',az,hj],rfl⟩) ?_ ?_
  ·intro j oj hj
   by_cases lS:j=nid
   ·subst lS
    rw[e1,Option.some.injEq] at hj
    subst hj
    refine .inr ⟨?_,by rw[p1];exact FU,fun b hb=> ?_⟩
    ·refine⟨Ak,FD,by rw[jz];exact Gv,KB, ?_, ?_⟩
     ·rw[KB.De eb]
      simp
     ·rw[p1,jz,KB.De eb]
      simp
    ·rw[p1] at hb
     exact bt b (m9 b (List.mem_append_right _ (jx b hb)))
   ·by_cases gg:j=id
    ·subst gg
     rw[e2,Option.some.injEq] at hj
     subst hj
     refine .inr ⟨?_,by rw[p2];exact EH,fun b hb=> ?_⟩
     ·refine⟨vals,aR.set i [],by rw[ER];exact aY,⟨by simp [c3.1],fun k r m hk hm=> ?_⟩,IB,by rw[p2,ER]⟩
      by_cases mW:k=i
      ·subst mW
       rw[List.getElem?_set_self j_,Option.some.injEq] at hm
       subst hm
       have EJ:r=rows.getD k []:=by
        rw[cz (d:=[]) hi,Option.some.injEq] at hk
        exact hk.symm
       subst EJ
       simp only[gQ,if_true]
       rw[jz]
       exact IK
      ·rw[List.getElem?_set_ne (Ne.symm mW)] at hm
       simp only[gQ,mW,if_false]
       exact c3.2 k r m hk hm
     ·rw[p2] at hb
      exact bt b (m9 b (mX b hb))
    ·rw[e3 j lS gg] at hj
     refine .inl ⟨lS,hj,by simp [β',az,gg],p3 j lS gg,fun k hk e=>(bL.obj j oj hj).2 k hk (e ▸ bC),fun _ _=>rfl⟩
  ·have kinds:∀j oj,h' j=some oj→∀b∈φ' j,(j=nid∧b∈v.ownBlock.toList)∨(j=id∧b∈(β.val id).ownBlock.toList++(aR.set i []).flatten)∨(j≠nid∧j≠id∧st.obj j=some oj∧b∈φ j):=by
    intro j oj hj b hb
    by_cases lS:j=nid
    ·subst lS
     rw[p1] at hb
     exact .inl ⟨rfl,hb⟩
    ·by_cases gg:j=id
     ·subst gg
      rw[p2] at hb
      exact .inr (.inl ⟨rfl,hb⟩)
     ·rw[p3 j lS gg] at hb
      rw[e3 j lS gg] at hj
      exact .inr (.inr ⟨lS,gg,hj,hb⟩)
   intro j k oj ok Kg hj hk b hb ax
   rcases kinds j oj hj b hb with ⟨rfl,x1⟩ | ⟨rfl,x1⟩ | ⟨x0,LI,x1,x2⟩<;>rcases kinds k ok hk b ax with ⟨rfl,y1⟩ | ⟨rfl,y1⟩ | ⟨y0,LJ,y1,y2⟩
   ·exact Kg rfl
   ·exact C4 b x1 y1
   ·exact hc.sep id k _ ok (Ne.symm LJ) aJ y1 b (m9 b (List.mem_append_right _ (jx b x1))) y2
   ·exact C4 b y1 x1
   ·exact Kg rfl
   ·exact hc.sep _ k _ ok (Ne.symm LJ) aJ y1 b (m9 b (mX b x1)) y2
   ·exact hc.sep id j _ oj (Ne.symm LI) aJ x1 b (m9 b (List.mem_append_right _ (jx b y1))) x2
   ·exact hc.sep _ j _ oj (Ne.symm LI) aJ x1 b (m9 b (mX b y1)) x2
   ·exact hc.sep j k oj ok Kg x1 y1 b x2 y2
 exact⟨_,v,β',φ',(ab.length _ _ _ _ _ er).1,fun j u hj=>aY.cell hg (fG hj),hv,Gv.one,IK,jz,Bm⟩
theorem CR (hR:Rel w0 S st a w) {d:Nat} (aK:o.dst=some d) (hd:a_ st.n d) (bL:bu st d) {t:TypeId} {x:Operand} (ho:o.op= .load t x) {id i off:Nat} {t' t1:TypeId} {ct e':List CT} {rows:List (List DC)} {td:TypeDesc}
  (h1:(bZ x).val st.get st.obj=some (.dU id i ct.length off)) (aJ:st.obj id=some (.deep t' ct [t1] rows none)) (iR:ct[off]? =some (.sl e')) (Cg:aB ct=1) (ha:bf P t=false) (hu:P.underlying t=some td) (hi:i<rows.length)
  (eU:e.sv= .own (ag d 0)) (js:e.cw=none) (how:e.ow=[(ag d 0,some (.row t1 e' ((rows.getD i []).getD off default).cj false true)),(id,some (.deep t' ct [t1] rows (some (i,ag d 0))))]):Good P w0 S st o e a w:=by
 obtain⟨β,φ,hc⟩:=hR.core
 have hx:=hc.ev h1
 simp only[ak] at hx
 obtain⟨g,hg,hx⟩:=hx
 obtain⟨us,v,β',φ',_,hcell,hv,ba,_,jz,Bm⟩:=Ai hR bL hc hg aJ iR Cg hi
 have hcell:=hcell _ _ hv
 refine bI hR (fun d' h'=>by rw[aK] at h';injection h' with h';exact h' ▸ hd) (v:=v) (w':=w) ?_ hR.kept ⟨β',φ', ?_, ?_⟩
 ·simp [execOp,ho,hx,dN ha hu hcell]
 ·rw[how,js]
  exact Bm
 ·rw[eU]
  unfold ak
  exact⟨jz.symm,ba⟩
theorem ab.outs {w:World} {av:Nat→Prop} {β:Env} {v0:Value} {nid:Nat} (Gz:β.val nid=v0):
  ∀(cs:List CT) (ts:List TypeId) (r:List DC) (us:List Value) (m:List Nat) (pre:List DC),ab w (some v0) cs ts r us m→
  af w av β (cP nid cs (pre++r) pre.length) us∧∀x∈us,x.oneCell'=true
 | [],_,_,_,_,_,h=>by
  simp only[ab] at h
  obtain⟨_,_,rfl,_⟩:=h
  simp [cP,af]
 | c::cs,_,_,_,_,pre,h=>by
  rcases cU c with ⟨e,rfl⟩ | hf
  ·simp only[ab] at h
   obtain⟨t,dB,rows,aW,v,aL,m1,fQ,rfl,rfl,rfl,_,h5,h6,rfl⟩:=h
   obtain⟨rfl,h8,_⟩:=h5
   obtain⟨q1,q2⟩:=ab.outs Gz cs _ _ _ _ (pre++[.sl rows]) h6
   have hl:(pre++[DC.sl rows]).length=pre.length+1:=by simp
   rw[hl,List.append_assoc] at q1
   refine⟨?_, ?_⟩
   ·simp only[cP,af]
    exact⟨v,aL,rfl,by simp only[ak];exact⟨Gz.symm,h8⟩,q1⟩
   ·intro x hx
    rcases List.mem_cons.1 hx with rfl | hx
    ·exact h8
    ·exact q2 x hx
  ·rw[ab.flat hf] at h
   obtain⟨d,aW,v,aL,rfl,rfl,h3,h4⟩:=h
   obtain⟨q1,q2⟩:=ab.outs Gz cs _ _ _ _ (pre++[d]) h4
   have hl:(pre++[d]).length=pre.length+1:=by simp
   rw[hl,List.append_assoc] at q1
   have hd:(pre++d::aW).getD pre.length default=d:=by simp
   have eU:ak w av β (fS c ((pre++d::aW).getD pre.length default)) v:=by rw[hd];exact c5 h3 (by simp)
   refine⟨?_, ?_⟩
   ·cases c with
    | sl e=>simp [aq] at hf
    | int x=>simp only[cP,af];exact⟨v,aL,rfl,eU,q1⟩
    | bool=>simp only[cP,af];exact⟨v,aL,rfl,eU,q1⟩
    | str=>simp only[cP,af];exact⟨v,aL,rfl,eU,q1⟩
   ·intro x hx
    rcases List.mem_cons.1 hx with rfl | hx
    ·exact h3.one
    ·exact q2 x hx
theorem hE (nid:Nat):∀(cs:List CT) (ds:List DC) (k n m:Nat),((cP nid cs ds k).drop n).take m=cP nid ((cs.drop n).take m) ds (k+n)
 | [],ds,k,n,m=>by simp [cP]
 | c::cs,ds,k,0,0=>by simp [cP]
 | c::cs,ds,k,0,m+1=>by
  have:=hE nid cs ds (k+1) 0 m
  simp only[List.drop_zero,Nat.add_zero] at this ⊢
  cases c<;>simp only[cP,List.take_succ_cons,this]
 | c::cs,ds,k,n+1,m=>by
  have:=hE nid cs ds (k+1) n m
  have e:k+(n+1)=k+1+n:=by omega
  rw[e]
  cases c<;>simp only[cP,List.drop_succ_cons,this]
theorem af.part {w:World} {av:Nat→Prop} {β:Env} :∀(ss:List SV) (us:List Value) (n m:Nat),af w av β ss us→af w av β ((ss.drop n).take m) ((us.drop n).take m)
 | [],us,n,m,h=>by simp only[af] at h;subst h;simp [af]
 | s::ss,us,n,m,h=>by
  have h0:=h
  simp only[af] at h
  obtain⟨v,l',rfl,h1,h2⟩:=h
  cases n with
  | zero=>
   cases m with
   | zero=>simp [af]
   | succ m=>
    have:=af.part ss l' 0 m h2
    simp only[List.drop_zero,List.take_succ_cons,af] at this ⊢
    exact⟨v,_,rfl,h1,this⟩
  | succ n=>simpa only[List.drop_succ_cons] using af.part ss l' n m h2
theorem BS (hR:Rel w0 S st a w) {d:Nat} (aK:o.dst=some d) (hd:a_ st.n d) (bL:bu st d) {t:TypeId} {x:Operand} (ho:o.op= .load t x) {id i off:Nat} {t' t1:TypeId} {ct e':List CT} {rows:List (List DC)} {j:TypeInfo}
  (h1:(bZ x).val st.get st.obj=some (.dU id i ct.length off)) (aJ:st.obj id=some (.deep t' ct [t1] rows none)) (iR:ct[iz ct]? =some (.sl e')) (Cg:aB ct=1) (ha:bf P t=true) (hj:P.info? t=some j) (hle:off+j.size≤ct.length) (hi:i<rows.length)
  (eU:e.sv= .agg (cP (ag d 0) ((ct.drop off).take j.size) (rows.getD i []) off)) (js:e.cw=none) (how:e.ow=[(ag d 0,some (.row t1 e' ((rows.getD i []).getD (iz ct) default).cj false true)),(id,some (.deep t' ct [t1] rows (some (i,ag d 0))))]):Good P w0 S st o e a w:=by
 obtain⟨β,φ,hc⟩:=hR.core
 have hx:=hc.ev h1
 simp only[ak] at hx
 obtain⟨g,hg,hx⟩:=hx
 obtain⟨us,v,β',φ',Cr,hcell,_,_,hH,jz,Bm⟩:=Ai hR bL hc hg aJ iR Cg hi
 obtain⟨q1,q2⟩:=ab.outs (w:=w) (av:=Av (az (az st.obj id (some (.deep t' ct [t1] rows (some (i,ag d 0))))) (ag d 0) (some (.row t1 e' ((rows.getD i []).getD (iz ct) default).cj false true))) β') jz ct [t1] (rows.getD i []) us [] [] hH
 have q3:=af.part _ _ off j.size q1
 simp only[List.nil_append,List.length_nil] at q3
 rw[hE,Nat.zero_add] at q3
 have hlen:((us.drop off).take j.size).length=j.size:=by rw[List.length_take,List.length_drop];omega
 refine bI hR (fun d' h'=>by rw[aK] at h';injection h' with h';exact h' ▸ hd) (v:= .agg ((us.drop off).take j.size).toArray) (w':=w) ?_ hR.kept ⟨β',φ', ?_, ?_⟩
 ·have:∀k u,((us.drop off).take j.size)[k]? =some u→w.cell? ⟨g,(i*ct.length+off)+k,none⟩=some u:=fun k u hk=>by
   rw[Nat.add_assoc]
   refine hcell _ _ ?_
   rw[List.getElem?_take] at hk
   split at hk
   ·simpa using hk
   ·cases hk
  simp [execOp,ho,hx,dM ha hj hlen this]
 ·rw[how,js]
  exact Bm
 ·rw[eU]
  simp only[ak]
  refine⟨_,rfl, ?_,fun x hx=>q2 x (List.mem_of_mem_drop (List.mem_of_mem_take hx))⟩
  rw[how,js]
  exact q3
end
end Go.Proofs.YtoaflbnkiobhdaaGreat.Vm
set_option linter.unusedVariables false
set_option linter.unusedSimpArgs false
namespace Go.Proofs.YtoaflbnkiobhdaaGreat.Vm
section
variable {P:Program} {Γ:Ctx} {w0:World} {S:Own} {st:St} {o:Oper} {e:cF} {a:Act} {w w':World}
variable {f:Nat→SV} {h:Nat→Option aj} {β:Env} {φ:Nat→List Nat} {tm:Array Value}
theorem ab.F9 {hv:Option Value} {pre part suf:List CT} {ts:List TypeId} {r ds:List DC} {us nu:List Value} {m:List Nat} (h:ab w hv (pre++(part++suf)) ts r us m) (hf:aq part=true) (hn:ab w hv part [] ds nu []):
  ab w hv (pre++(part++suf)) ts (bP r pre.length ds) (us.take pre.length++(nu++us.drop (pre.length+nu.length))) m:=by
 obtain⟨F_,HJ,m1,m2,rfl,rfl,k1,k2⟩:=ab.split _ _ _ _ _ _ h
 obtain⟨Mz,MA,m3,m4,rfl,rfl,k3,k4⟩:=ab.split _ _ _ _ _ _ k2
 obtain⟨rfl,rfl,_⟩:=ab.toFlat _ _ _ _ _ hf k3
 obtain⟨l1,l2⟩:=ab.length _ _ _ _ _ hn
 rw[List.drop_drop,List.drop_drop] at k4
 have:=ab.join _ _ _ _ _ _ _ _ _ _ k1 (ab.join _ _ _ _ _ _ _ _ _ _ hn k4)
 simpa only[bP,l1,l2] using this
theorem ab.F8 {hv:Option Value} {pre part suf:List CT} {ts dB:List TypeId} {r ds:List DC} {us nu:List Value} {m m':List Nat} (h:ab w hv (pre++(part++suf)) ts r us m) (hf:aB part=aB (pre++(part++suf))) (hn:ab w none part dB ds nu m'):
  ab w none (pre++(part++suf)) dB (bP r pre.length ds) (us.take pre.length++(nu++us.drop (pre.length+nu.length))) m':=by
 rw[dO,dO] at hf
 have f1:aq pre=true:=dQ (by omega)
 have f2:aq suf=true:=dQ (by omega)
 obtain⟨F_,HJ,m1,m2,rfl,rfl,k1,k2⟩:=ab.split _ _ _ _ _ _ h
 obtain⟨Mz,MA,m3,m4,rfl,rfl,k3,k4⟩:=ab.split _ _ _ _ _ _ k2
 obtain⟨rfl,rfl,_⟩:=ab.toFlat _ _ _ _ _ f1 k1
 obtain⟨rfl,rfl,_⟩:=ab.toFlat _ _ _ _ _ f2 k4
 obtain⟨l1,l2⟩:=ab.length _ _ _ _ _ hn
 rw[List.drop_drop,List.drop_drop] at k4
 have:=ab.join _ _ _ _ _ _ _ _ _ _ (ab.AV (hv':=none) f1 k1) (ab.join _ _ _ _ _ _ _ _ _ _ hn (ab.AV (hv':=none) f2 k4))
 simpa only[bP,l1,l2,List.nil_append,List.append_nil] using this
theorem c7.cells:∀(cs:List CT) (ts:List TypeId) (ds:List DC) (us:List Value) (mb:List Nat),c7 w cs ts ds us mb→ab w none cs ts ds us mb
 | [],_,_,_,_,h=>by simpa only[c7,ab] using h
 | .sl e::cs,_,_,_,_,h=>by
  simp only[c7] at h
  obtain⟨t,dB,rows,aW,v,aL,vals,aA,fQ,rfl,rfl,rfl,h4,h5,h6,h7,rfl⟩:=h
  simp only[ab]
  exact⟨t,dB,rows,aW,v,aL,_,fQ,rfl,rfl,rfl,h4,⟨vals,aA,h5,h6,rfl⟩,c7.cells cs _ _ _ _ h7,rfl⟩
 | .int k::cs,_,_,_,_,h=>by
  simp only[c7] at h
  obtain⟨d,aW,v,aL,rfl,rfl,h3,h4⟩:=h
  simp only[ab]
  exact⟨d,aW,v,aL,rfl,rfl,h3,c7.cells cs _ _ _ _ h4⟩
 | .bool::cs,_,_,_,_,h=>by
  simp only[c7] at h
  obtain⟨d,aW,v,aL,rfl,rfl,h3,h4⟩:=h
  simp only[ab]
  exact⟨d,aW,v,aL,rfl,rfl,h3,c7.cells cs _ _ _ _ h4⟩
 | .str::cs,_,_,_,_,h=>by
  simp only[c7] at h
  obtain⟨d,aW,v,aL,rfl,rfl,h3,h4⟩:=h
  simp only[ab]
  exact⟨d,aW,v,aL,rfl,rfl,h3,c7.cells cs _ _ _ _ h4⟩
theorem three (ct:List CT) (off n:Nat):ct.take off++((ct.drop off).take n++ct.drop (off+n))=ct:=by
 rw[←List.drop_drop,List.take_append_drop,List.take_append_drop]
theorem Ah {t t':TypeId} {x y:Operand} (ho:o.op= .store t x y) {g i off:Nat} {ct:List CT} {n cap:Nat} {cur:Array Value} (hx:a.eval x= .pointer (some ⟨g,i*ct.length+off,none⟩)) {ti:TypeInfo} (FR:P.info? t=some ti) (bq:ti.size=(a.eval y).cells.size)
  (ba:∀v∈(a.eval y).cells.toList,v.oneCell'=true) (hh:w.heap[g]? =some (.cells cur t' (0,0))) (hi:i<n) (AD:n≤cap) (fh:cur.size=cap*ct.length) (dH:off+(a.eval y).cells.toList.length≤ct.length):
  (execOp a.eval o).run P w= .ok .skip (w.setRow g (cur.toList.take (i*ct.length+off)++((a.eval y).cells.toList++cur.toList.drop (i*ct.length+off+(a.eval y).cells.toList.length))).toArray):=by
 have hlen:i*ct.length+ct.length≤n*ct.length:=by rw[←Nat.succ_mul];exact Nat.mul_le_mul_right _ hi
 have Bs:n*ct.length≤cap*ct.length:=Nat.mul_le_mul_right _ AD
 have bo:=bN P g (i*ct.length+off) t' (0,0) (a.eval y).cells.toList 0 cur w hh (fun j _ h=>by simp at h) (by omega) ba
 simp only[Nat.add_zero] at bo
 have:=hP (P:=P) (t:=t) (b:=g) (off:=i*ct.length+off) (x:=a.eval y) FR bq bo
 simp [execOp,ho,hx,this]
theorem cg.written {t:TypeId} {el i off n:Nat} {v:Value} {vals nu:List Value} (aY:cg w t el false v n vals) {g:Nat} (hg:v.ownBlock=some g) (hi:i<n) (dH:off+nu.length≤el) {cap:Nat} {cur:Array Value} (hh:w.heap[g]? =some (.cells cur t (0,0))) (fh:cur.size=cap*el) (AD:n≤cap):
  cg (w.setRow g (cur.toList.take (i*el+off)++(nu++cur.toList.drop (i*el+off+nu.length))).toArray) t el false v n (vals.take (i*el+off)++(nu++vals.drop (i*el+off+nu.length))):=by
 have hlen:i*el+el≤n*el:=by rw[←Nat.succ_mul];exact Nat.mul_le_mul_right _ hi
 have Bs:n*el≤cap*el:=Nat.mul_le_mul_right _ AD
 have lQ:(cur.toList.take (i*el+off)++(nu++cur.toList.drop (i*el+off+nu.length))).length=cur.size:=by
  simp only[List.length_append,List.length_take,List.length_drop,Array.length_toList]
  omega
 rcases aY.2 with ⟨hv,h0,_⟩ | ⟨g',HX,LL,hv,Ka,Ku,DN,lP,EP⟩
 ·omega
 have Hb:g'=g:=by simpa [hv,Value.ownBlock] using hg
 subst Hb
 rw[hh] at Ka
 simp only[cond_false,Option.some.injEq,Obj.cells.injEq] at Ka
 obtain⟨rfl,_⟩:=Ka
 refine⟨?_,.inr ⟨g',HX,(cur.toList.take (i*el+off)++(nu++cur.toList.drop (i*el+off+nu.length))).toArray,hv, ?_,Ku,DN,by simpa [lQ] using lP, ?_⟩⟩
 ·have:=aY.1
  simp only[List.length_append,List.length_take,List.length_drop]
  omega
 ·rw[setRow_heap w _ _ _ _ _ hh]
  simp
 ·simp only
  rw[hY _ _ _ _ (by omega) (by simp only[Array.length_toList];omega),EP]
theorem A1 (hR:Rel w0 S st a w) (hd:∀d,o.dst=some d→a_ st.n d) {t t':TypeId} {x y:Operand} (ho:o.op= .store t x y) {id i off:Nat} {sy:SV} {bK:List SV} {ct:List CT} {ts:List TypeId} {rows:List (List DC)} {hl:Option (Nat×Nat)} {r:List DC×eJ×Bool}
  (h1:(bZ x).val st.get st.obj=some (.dU id i ct.length off)) (h2:(bZ y).val st.get st.obj=some sy) (fh:(aD sy).val st.get st.obj=some bK) (dm:aX P t bK.length=true)
  (aJ:st.obj id=some (.deep t' ct ts rows hl)) (dH:off+bK.length≤ct.length) (hf:aq ((ct.drop off).take bK.length)=true) (hr:(ca ((ct.drop off).take bK.length) bK).val st.get st.obj=some r)
  (hi:i<rows.length) (js:e.cw=none) (Bw:e.sv= .undef) (how:e.ow=[(id,some (.deep t' ct ts (rows.set i (bP (rows.getD i []) off r.1)) hl))]):Good P w0 S st o e a w:=by
 obtain⟨ti,FR,bq⟩:=aV dm
 obtain⟨β,φ,hc⟩:=hR.core
 have hx:=hc.ev h1
 simp only[ak] at hx
 obtain⟨g,hg,hx⟩:=hx
 obtain⟨eU,ba⟩:=dE (hc.ev h2) fh
 have jT:=af.length _ _ eU
 have mz:(a.eval y).cells.size=bK.length:=by simpa using jT
 obtain⟨fp,jU,_,_,_⟩:=dR hc _ _ _ r eU hr
 obtain⟨vals,aR,aY,c3,ja,ki⟩:=hc.ay id _ aJ
 have kF:g∈al β id (.deep t' ct ts rows hl):=by simp [al,hg]
 rcases aY.2 with ⟨hv,h0,_⟩ | ⟨g',cap,cur,hv,hh,AD,DN,lP,EP⟩
 ·omega
 have Hb:g'=g:=by simpa [hv,Value.ownBlock] using hg
 subst Hb
 simp only[cond_false] at hh
 have Cr:(a.eval y).cells.toList.length=bK.length:=by simpa using mz
 have bo:=Ah (P:=P) ho hx FR (bq.trans mz.symm) ba hh hi AD lP (by rw[Cr];exact dH)
 have HR:=aY.written (off:=off) (nu:=(a.eval y).cells.toList) hg hi (by rw[Cr];exact dH) hh lP AD
 generalize (a.eval y).cells.toList=nu at*
 rw[←Cr] at dH hf jU hr
 have j_:i<aR.length:=by rw[c3.1];exact hi
 have er:=c3.2 i (rows.getD i []) aR[i] (cz hi) (by simp)
 have Gq:(ct.take off).length=off:=by simp;omega
 have Iu:((ct.drop off).take nu.length).length=nu.length:=by simp;omega
 have bC:=ab.F9 (pre:=ct.take off) (part:=(ct.drop off).take nu.length) (suf:=ct.drop (off+nu.length)) (by rw[three];exact er) hf (ab.Cz _ _ _ _ hf jU Iu.symm)
 rw[three,Gq] at bC
 have bt:=hc.fresh id _ aJ
 have hnd:=bt.1
 rw[ki] at hnd
 have JD:∀b∈aR.flatten,b≠g':=by
  intro b hb e
  subst e
  rw[List.nodup_append] at hnd
  exact hnd.2.2 b (by simp [hg]) b hb rfl
 have kc:∀j m',aR[j]? =some m'→∀b∈m',b∈aR.flatten:=fun j m' hj b hb=>List.mem_flatten.2 ⟨m',List.mem_of_getElem? hj,hb⟩
 have Mi:aR.set i aR[i]=aR:=List.set_getElem_self ..
 have lR:=c3.set (w':=w.setRow g' (cur.toList.take (i*ct.length+off)++(nu++cur.toList.drop (i*ct.length+off+nu.length))).toArray) (hv':=gQ β hl) (by simp) aY.1 hi dH
  (fun j _ m' hj b hb=>setRow_other w g' b _ (JD b (kc j m' hj b hb))) (fun _ _=>rfl)
  (ab.mono (by simp) _ _ _ _ _ bC (fun b hb=>setRow_other w g' b _ (JD b (kc i aR[i] (by simp) b hb))))
 rw[Mi] at lR
 have mY:∀b∈al β id (.deep t' ct ts (rows.set i (bP (rows.getD i []) off r.1)) hl),b∈al β id (.deep t' ct ts rows hl):=fun b hb=>hb
 refine ie hR hd bo (hR.kept.setRow (bt.2 g' (ah (hc.ay id _ aJ) g' kF)).1 _) ⟨β,az φ id ((β.val id).ownBlock.toList++aR.flatten), ?_,by rw[Bw];simp [ak]⟩
 rw[how,js]
 show Core w0 S st.get (az st.obj id (some (.deep t' ct ts (rows.set i (bP (rows.getD i []) off r.1)) hl))) _ _ _ _
 refine hc.rewrite aJ kF mY ?_ hnd ?_
 ·exact⟨_,aR,by simpa using HR,lR,ja,rfl⟩
 ·intro b hb
  have ax:b∈φ id:=by rw[ki];exact hb
  exact⟨bt.2 b ax,fun j oj hj iQ=>hc.sep id j _ _ (Ne.symm hj) aJ iQ b ax⟩
theorem Aw:∀(U:List MU) (h:Nat→Option aj) (j:Nat),fo (d8 U) h j=if j∈bm U then none else h j
 | [],h,j=>by simp [d8,bm,fo]
 | x::l,h,j=>by
  have ih:=Aw l h j
  cases x<;>simp only[d8,bm,fo,az]<;>first | exact ih | (by_cases hj:j=_<;>simp [hj,ih]<;>done) | skip
  all_goals
   simp only[List.mem_cons,ih]
   split<;>rename_i hj
   ·simp [hj]
   ·simp [hj]
theorem A0 (hR:Rel w0 S st a w) (hd:∀d,o.dst=some d→a_ st.n d) {t t':TypeId} {x y:Operand} (ho:o.op= .store t x y) {id i off:Nat} {sy:SV} {bK:List SV} {ct:List CT} {ts:List TypeId} {rows:List (List DC)} {hl:Option (Nat×Nat)} {r:List DC×List MU}
  (h1:(bZ x).val st.get st.obj=some (.dU id i ct.length off)) (h2:(bZ y).val st.get st.obj=some sy) (fh:(aD sy).val st.get st.obj=some bK) (dm:aX P t bK.length=true)
  (aJ:st.obj id=some (.deep t' ct ts rows hl)) (dH:off+bK.length≤ct.length) (hf:aB ((ct.drop off).take bK.length)=aB ct) (hr:(aT ((ct.drop off).take bK.length) ts bK).val st.get st.obj=some r)
  (I1:cX (id::bm r.2)=true) (hi:i<rows.length) (Im:Cp hl i=true) (js:e.cw=none) (Bw:e.sv= .undef) (how:e.ow=(id,some (.deep t' ct ts (rows.set i (bP (rows.getD i []) off r.1)) none))::d8 r.2):Good P w0 S st o e a w:=by
 obtain⟨ti,FR,bq⟩:=aV dm
 obtain⟨β,φ,hc⟩:=hR.core
 have hx:=hc.ev h1
 simp only[ak] at hx
 obtain⟨g,hg,hx⟩:=hx
 obtain⟨eU,ba⟩:=dE (hc.ev h2) fh
 have jT:=af.length _ _ eU
 have mz:(a.eval y).cells.size=bK.length:=by simpa using jT
 obtain⟨kG,B5⟩:=cZ hc _ _ _ _ r eU hr
 have IC:=c7.cells _ _ _ _ _ kG
 obtain⟨mC,KO⟩:=cY I1
 have Ba:=dK hc B5 KO
 have JA:∀b∈r.2.flatMap (aC β),∃k∈bm r.2,∃ob,st.obj k=some ob∧b∈al β k ob:=db B5
 obtain⟨vals,aR,aY,c3,ja,ki⟩:=hc.ay id _ aJ
 have kF:g∈al β id (.deep t' ct ts rows hl):=by simp [al,hg]
 rcases aY.2 with ⟨hv,h0,_⟩ | ⟨g',cap,cur,hv,hh,AD,DN,lP,EP⟩
 ·omega
 have Hb:g'=g:=by simpa [hv,Value.ownBlock] using hg
 subst Hb
 simp only[cond_false] at hh
 have Cr:(a.eval y).cells.toList.length=bK.length:=by simpa using mz
 have bo:=Ah (P:=P) ho hx FR (bq.trans mz.symm) ba hh hi AD lP (by rw[Cr];exact dH)
 have HR:=aY.written (off:=off) (nu:=(a.eval y).cells.toList) hg hi (by rw[Cr];exact dH) hh lP AD
 generalize (a.eval y).cells.toList=nu at*
 rw[←Cr] at dH hf IC hr
 have j_:i<aR.length:=by rw[c3.1];exact hi
 have er:=c3.2 i (rows.getD i []) aR[i] (cz hi) (by simp)
 have Gq:(ct.take off).length=off:=by simp;omega
 have bC:=ab.F8 (pre:=ct.take off) (part:=(ct.drop off).take nu.length) (suf:=ct.drop (off+nu.length)) (by rw[three];exact er) (by rw[three];exact hf) IC
 rw[three,Gq] at bC
 have bt:=hc.fresh id _ aJ
 have hnd:=bt.1
 rw[ki] at hnd
 have Cj:g'∈φ id:=ah (hc.ay id _ aJ) g' kF
 have JD:∀b∈aR.flatten,b≠g':=by
  intro b hb e
  subst e
  rw[List.nodup_append] at hnd
  exact hnd.2.2 b (by simp [hg]) b hb rfl
 have FN:∀b∈r.2.flatMap (aC β),b ∉ φ id:=by
  intro b hb ig
  obtain⟨k,hk,ob,It,mU⟩:=JA b hb
  exact hc.sep k id ob _ (fun e=>mC (e ▸ hk)) It aJ b (ah (hc.ay k ob It) b mU) ig
 have Kv:∀b∈r.2.flatMap (aC β),b≠g':=fun b hb e=>FN b hb (e ▸ Cj)
 have kc:∀j m',aR[j]? =some m'→∀b∈m',b∈aR.flatten:=fun j m' hj b hb=>List.mem_flatten.2 ⟨m',List.mem_of_getElem? hj,hb⟩
 have Kb:∀j,j≠i→(none:Option Value)=gQ β hl j:=by
  intro j hj
  cases hl with
  | none=>rfl
  | some q=>
   obtain⟨k,nid⟩:=q
   have:=Nat.eq_of_beq_eq_true Im
   subst this
   simp [gQ,hj]
 have lR:=c3.set (w':=w.setRow g' (cur.toList.take (i*ct.length+off)++(nu++cur.toList.drop (i*ct.length+off+nu.length))).toArray) (hv':=fun _=>none) (by simp) aY.1 hi dH
  (fun j _ m' hj b hb=>setRow_other w g' b _ (JD b (kc j m' hj b hb))) Kb
  (ab.mono (by simp) _ _ _ _ _ bC (fun b hb=>setRow_other w g' b _ (Kv b hb)))
 have EH:((β.val id).ownBlock.toList++(aR.set i (r.2.flatMap (aC β))).flatten).Nodup:=by
  rw[bS j_]
  have h3:=hnd
  rw[br j_] at h3
  have h4:=gn (A:=(β.val id).ownBlock.toList++(aR.take i).flatten) (p1:=[]) (p2:=aR[i]) (p3:=[]) (B:=(aR.drop (i+1)).flatten) (n:=r.2.flatMap (aC β)) (by simpa using h3) Ba
   (fun b hb ig=>FN b hb (by rw[ki,br j_];simpa using ig))
  simpa using h4
 refine ie hR hd bo (hR.kept.setRow (bt.2 g' Cj).1 _) ⟨β.fe id (aR.set i (r.2.flatMap (aC β))).flatten,az φ id ((β.val id).ownBlock.toList++(aR.set i (r.2.flatMap (aC β))).flatten), ?_,by rw[Bw];simp [ak]⟩
 rw[how,js]
 refine hc.Dg (t:=t') (ct:=ct) (ts:=ts) (rows:=rows.set i (bP (rows.getD i []) off r.1)) (hl:=none) (G:=fun k=>k∈bm r.2) aJ (fun k hk e=>mC (e ▸ hk)) (by simp [fo,az,fc]) (fun j hj x hx=> ?_) (by simp) (fun b hb ig=>setRow_other w g' b _ (fun e=>ig (by rw[e,hg];simp))) (fun b hb=>by simp only[al];exact List.mem_append_left _ hb) (fun b hb=> ?_) ?_ EH
 ·simp only[fo,az,hj,if_false,fc] at hx
  rw[Aw] at hx
  split at hx
  ·cases hx
  ·rename_i hk
   exact⟨hx,hk⟩
 ·rw[bS j_] at hb
  simp only[List.mem_append] at hb
  rcases hb with hb | hb | hb
  ·left
   simp only[al,ja]
   rw[br j_]
   simp [hb]
  ·right
   obtain⟨k,hk,ob,h3,h4⟩:=JA b hb
   exact⟨k,ob,hk,h3,h4⟩
  ·left
   simp only[al,ja]
   rw[br j_]
   simp [hb]
 ·exact⟨_,_,by simpa [Env.fe] using HR,lR,by simp [Env.fe,az],by simp [Env.fe]⟩
theorem mJ (hR:Rel w0 S st a w) {d:Nat} (aK:o.dst=some d) (hd:a_ st.n d) (bL:bu st d) {t:TypeId} {ct:List CT} {ts:List TypeId} {rows:List (List DC)} {w':World} {v:Value}
  (bo:(execOp a.eval o).run P w= .ok (.value v) w') (hk:Kept S w0 w') (hs:w.heap.size≤w'.heap.size) (hw:∀b,b<w.heap.size→w'.heap[b]? =w.heap[b]?)
  (hB:∀b∈v.ownBlock.toList,b=w.heap.size) {vals:List Value} (aY:cg w' t ct.length false v rows.length vals)
  (c3:bG w' ct ts rows vals (fun _=>none) (List.replicate rows.length []))
  (eU:e.sv= .own (ag d 0)) (js:e.cw=none) (how:e.ow=[(ag d 0,some (.deep t ct ts rows none))]):Good P w0 S st o e a w:=by
 obtain⟨β,φ,hc⟩:=hR.core
 have bC:ag d 0 / 64=d:=cK d 0 (by omega)
 have hle:=hR.kept.size
 have Bo:(List.replicate rows.length ([]:List Nat)).flatten=[]:=by simp
 have hval:(β.fV (ag d 0) v []).val (ag d 0)=v:=by simp [Env.fV,az]
 have EG:(β.fV (ag d 0) v []).nb (ag d 0)=[]:=by simp [Env.fV,az]
 have FU:v.ownBlock.toList.Nodup:=by cases v.ownBlock<;>simp
 refine bI hR (fun d' h'=>by rw[aK] at h';injection h' with h';exact h' ▸ hd) bo hk
  ⟨β.fV (ag d 0) v [],az φ (ag d 0) v.ownBlock.toList, ?_, ?_⟩
 ·rw[how,js]
  refine hc.create hs hw (fun i hi=>bL.slot i _ hi bC) (fun j ob hj hi=>(bL.obj j ob hj).2 _ hi bC) ?_ (fun j hj=>⟨by simp [Env.fV,az,hj],rfl⟩) ?_ ?_ FU ?_ rfl (fun j hj=>by simp [Env.fV,az,hj])
  ·cases hn:st.obj (ag d 0) with
   | none=>rfl
   | some ob=>exact absurd bC (bL.obj _ ob hn).1
  ·intro b hb
   simp only[al,hval,EG,List.append_nil] at hb
   rw[hB b hb]
   exact Nat.le_refl _
  ·exact⟨vals,List.replicate rows.length [],by rw[hval];exact aY,c3,by rw[EG,Bo],by rw[hval,Bo,List.append_nil]⟩
  ·intro b hb
   have h1:=hB b hb
   subst h1
   refine⟨⟨.inl hle,aY.lt _ hb⟩,fun j ob hj bn=> ?_⟩
   have:=((hc.fresh j ob hj).2 _ bn).2
   omega
 ·rw[eU]
  unfold ak
  exact⟨hval.symm,aY.one⟩
theorem iI {α:Type} (z:List α):∀(n k:Nat),k<n→(((List.replicate n z).flatten).drop (k*z.length)).take z.length=z
 | 0,k,h=>by omega
 | n+1,0,_=>by simp [List.replicate_succ]
 | n+1,k+1,h=>by
  rw[List.replicate_succ,List.flatten_cons,Nat.succ_mul,Nat.add_comm,List.drop_append,List.drop_of_length_le (by omega),List.nil_append]
  rw[show z.length+k*z.length - z.length=k*z.length by omega]
  exact iI z n k (by omega)
theorem bG.replicate {ct:List CT} {ts:List TypeId} {r:List DC} {z:List Value} (h:ab w none ct ts r z []) (hl:z.length=ct.length) (n:Nat):bG w ct ts (List.replicate n r) (List.replicate n z).flatten (fun _=>none) (List.replicate n []):=by
 refine⟨by simp,fun i r' m hi hm=> ?_⟩
 have c3:i<n:=by have:=(List.getElem?_eq_some_iff.1 hi).1;simpa using this
 rw[List.getElem?_replicate_of_lt c3,Option.some.injEq] at hi hm
 subst hi hm
 rw[←hl,iI z n i c3]
 exact h
theorem Dd:∀ {U:List MU},bm U=[]→U.flatMap (aC β)=[]
 | [],_=>rfl
 | x::l,h=>by
  cases x<;>simp [bm] at h
  simp [aC,Dd h]
theorem BQ (hR:Rel w0 S st a w) {d:Nat} (aK:o.dst=some d) (hd:a_ st.n d) (bL:bu st d) {t et:TypeId} {l c:Operand} (ho:o.op= .makeSlice t l c) {n m:Int} {ct:List CT} {ts:List TypeId} {i:TypeInfo} {z:List SV} {r:List DC×List MU}
  (hl:(bZ l).val st.get st.obj=some (.int .i64 n)) (hm:(bZ c).val st.get st.obj=some (.int .i64 m)) (hu:P.underlying t=some (.slice et)) (hi:P.info? et=some i) (dm:i.size=ct.length)
  (hz:(dA P et).val st.get st.obj=some z) (hr:(aT ct ts z).val st.get st.obj=some r) (B5:bm r.2=[])
  (he:e= {sv:= .own (ag d 0),ow:=[(ag d 0,some (.deep et ct ts (List.replicate n.toNat r.1) none))],ok:=decide (0≤n) && decide (n≤m) && decide (m.toNat*i.bytes≤140737488355328) && decide (m≤9223372036854775807)})
  (aI:e.ok=true):Good P w0 S st o e a w:=by
 subst he
 simp only[Bool.and_eq_true,decide_eq_true_eq] at aI
 obtain⟨⟨⟨h0,IG⟩,A6⟩,JB⟩:=aI
 obtain⟨i',zv,dI,mE,rfl,ba⟩:=dk hz
 rw[hi] at dI
 injection dI with dI
 subst dI
 obtain⟨Jj,Jk,B2⟩:=hR.core
 obtain⟨kG,_⟩:=cZ B2 ct ts _ _ r (ey zv.cells.toList) hr
 have A7:=c7.cells _ _ _ _ _ kG
 rw[Dd B5] at A7
 have jA:zv.cells.toList.length=ct.length:=(ab.length _ _ _ _ _ A7).1
 have ED:(madeCells zv.cells (m.toNat*i.size)).toList=(List.replicate m.toNat zv.cells.toList).flatten:=by
  have:=Dc zv.cells m.toNat
  rw[dm,←jA]
  simpa using this
 have hx:=B2.ev hl
 have hy:=B2.ev hm
 simp only[ak] at hx hy
 have hb:(i.bytes:Int)*m≤281474976710656:=by
  have h1:((m.toNat*i.bytes:Nat):Int)≤140737488355328:=by omega
  rw[Int.natCast_mul,Int.toNat_of_nonneg (by omega),Int.mul_comm] at h1
  omega
 have bo:=run_make (P:=P) w t et i zv hu hi mE .i64 .i64 n m h0 IG hb JB
 refine mJ hR aK hd bL (vals:=(List.replicate n.toNat zv.cells.toList).flatten) (v:= .slice (some ⟨w.heap.size,0,none⟩) n.toNat m.toNat)
  (w':=w.alloc (.cells (madeCells zv.cells (m.toNat*i.size)) et)) ?_ (hR.kept.alloc _) (by rw[ch];omega) (fun b hb=>alloc_old _ b hb) (by simp [Value.ownBlock]) ?_ ?_ rfl rfl rfl
 ·simp [execOp,ho,hx.1,hy.1,bo]
 ·refine⟨by simp [jA],.inr ⟨w.heap.size,m.toNat,_,by simp,by simpa using dX _,by simp;omega,by simp only[maxLen];omega,by rw[size_madeCells,dm], ?_⟩⟩
  rw[ED]
  have:List.replicate m.toNat zv.cells.toList=List.replicate n.toNat zv.cells.toList++List.replicate (m.toNat - n.toNat) zv.cells.toList:=by
   rw[List.replicate_append_replicate]
   congr 1
   omega
  rw[this,List.flatten_append,List.take_append_of_le_length (by simp [jA]),List.take_of_length_le (by simp [jA])]
 ·rw[List.length_replicate]
  exact bG.replicate (ab.mono (by rw[ch];omega) _ _ _ _ _ A7 (by simp)) jA _
theorem DB (hc:Core w0 S f h β φ tm w) {id nid i:Nat} {t t1:TypeId} {ct e2:List CT} {rows r:List (List DC)} {u:Bool} {h':Nat→Option aj} (aJ:h id=some (.deep t ct [t1] rows (some (i,nid)))) (hn:h nid=some (.row t1 e2 r false u)) (ke:∃e',ct[dW ct]? =some (.sl e')∧e'=e2) (Cg:aB ct=1)
  (cI:nid≠id) (hf:aq e2=true) (hh:h' id=some (.deep t ct [t1] (rows.set i (bP (rows.getD i []) (dW ct) [.sl r])) none)) (Du:∀j,j≠id→h' j=if j=nid then none else h j):
  ∃β' φ',Core w0 S f h' β' φ' tm w:=by
 obtain⟨e',ke,rfl⟩:=ke
 obtain⟨vals,aR,aY,c3,ja,ki⟩:=hc.ay id _ aJ
 obtain⟨B0,mv,IP,jt,_,_⟩:=hc.ay nid _ hn
 have hnd:=(hc.fresh id _ aJ).1
 rw[ki] at hnd
 have Lr:al β nid (.row t1 e' r false u)=(β.val nid).ownBlock.toList:=rfl
 have FN:∀b∈(β.val nid).ownBlock.toList,b ∉ φ id:=fun b hb=>hc.sep nid id _ _ cI hn aJ b (ah (hc.ay nid _ hn) b (Lr ▸ hb))
 have FU:(β.val nid).ownBlock.toList.Nodup:=by cases (β.val nid).ownBlock<;>simp
 have kc:∀b∈(aR.set i (β.val nid).ownBlock.toList).flatten,b∈aR.flatten∨b∈(β.val nid).ownBlock.toList:=by
  intro b hb
  by_cases hi:i<aR.length
  ·rw[bS hi] at hb
   rw[br hi]
   simp only[List.mem_append] at hb ⊢
   rcases hb with hb | hb | hb<;>simp [hb]
  ·rw[List.set_eq_of_length_le (by omega)] at hb
   exact .inl hb
 have EH:((β.val id).ownBlock.toList++(aR.set i (β.val nid).ownBlock.toList).flatten).Nodup:=by
  by_cases hi:i<aR.length
  ·rw[bS hi]
   have h3:=hnd
   rw[br hi] at h3
   have h4:=gn (A:=(β.val id).ownBlock.toList++(aR.take i).flatten) (p1:=[]) (p2:=aR[i]) (p3:=[]) (B:=(aR.drop (i+1)).flatten) (n:=(β.val nid).ownBlock.toList) (by simpa using h3) FU
    (fun b hb ig=>FN b hb (by rw[ki,br hi];simpa using ig))
   simpa using h4
  ·rw[List.set_eq_of_length_le (by omega)]
   exact hnd
 refine⟨β.fe id (aR.set i (β.val nid).ownBlock.toList).flatten,az φ id ((β.val id).ownBlock.toList++(aR.set i (β.val nid).ownBlock.toList).flatten), ?_⟩
 refine hc.Dg (t:=t) (ct:=ct) (ts:=[t1]) (rows:=rows.set i (bP (rows.getD i []) (dW ct) [.sl r])) (hl:=none) (G:=fun k=>k=nid) aJ (fun k hk e=>cI (hk ▸ e)) hh (fun j hj x hx=> ?_) (Nat.le_refl _) (fun _ _ _=>rfl) (fun b hb=>by simp only[al];exact List.mem_append_left _ hb) (fun b hb=> ?_) ?_ EH
 ·rw[Du j hj] at hx
  split at hx
  ·cases hx
  ·rename_i hk
   exact⟨hx,hk⟩
 ·rcases kc b hb with hb | hb
  ·left
   simp only[al,ja]
   exact List.mem_append_right _ hb
  ·exact .inr ⟨nid,_,rfl,hn,Lr ▸ hb⟩
 ·refine⟨vals,aR.set i (β.val nid).ownBlock.toList,by simpa [Env.fe] using aY,⟨by simp [c3.1],fun k r' m hk hm=> ?_⟩,by simp [Env.fe,az],by simp [Env.fe]⟩
  by_cases mW:k=i
  ·subst mW
   have Fs:k<rows.length:=by have:=(List.getElem?_eq_some_iff.1 hk).1;simpa using this
   have FI:k<aR.length:=by rw[c3.1];exact Fs
   rw[List.getElem?_set_self Fs,Option.some.injEq] at hk
   rw[List.getElem?_set_self FI,Option.some.injEq] at hm
   subst hk hm
   have h3:=c3.2 k (rows.getD k []) aR[k] (cz Fs) (by simp)
   simp only[gQ,if_true] at h3
   exact ab.back _ e' t1 _ _ aR[k] ke Cg h3 ⟨B0,mv,IP,jt,rfl⟩
  ·rw[List.getElem?_set_ne (Ne.symm mW)] at hk hm
   have:=c3.2 k r' m hk hm
   simp only[gQ,mW,if_false] at this
   exact this
end
end Go.Proofs.YtoaflbnkiobhdaaGreat.Vm
set_option linter.unusedVariables false
set_option linter.unusedSimpArgs false
namespace Go.Proofs.YtoaflbnkiobhdaaGreat.Vm
section
variable {P:Program} {Γ:Ctx} {w0:World} {S:Own} {st:St} {o:Oper} {e:cF} {a:Act} {w w':World}
variable {f:Nat→SV} {h:Nat→Option aj} {β:Env} {φ:Nat→List Nat} {tm:Array Value}
theorem Core.compose (hc:Core w0 S f h β φ tm w) {id:Nat} {G:Nat→Prop} {h':Nat→Option aj} {v':Value} {t:TypeId} {ct:List CT} {ts:List TypeId} {rows:List (List DC)} {vals:List Value} {aR:List (List Nat)}
  (dg:∀i,id ∉ bT (f i)) (Ck:∀j x,h j=some x→id ∉ cB x) (Lp:h id=none)
  (hh:h' id=some (.deep t ct ts rows none)) (Du:∀j,j≠id→∀x,h' j=some x→h j=some x∧¬G j)
  (hs:w.heap.size≤w'.heap.size) (hk:w0.heap.size≤w.heap.size) (hw:∀b,b<w.heap.size→(∀k x,G k→h k=some x→b ∉ al β k x)→w'.heap[b]? =w.heap[b]?)
  (LZ:∀b∈v'.ownBlock.toList++aR.flatten,(∃k x,G k∧h k=some x∧b∈al β k x)∨(b=w.heap.size∧b<w'.heap.size))
  (aY:cg w' t ct.length false v' rows.length vals) (c3:bG w' ct ts rows vals (fun _=>none) aR) (hnd:(v'.ownBlock.toList++aR.flatten).Nodup):
  Core w0 S f h' (β.fV id v' aR.flatten) (az φ id (v'.ownBlock.toList++aR.flatten)) tm w':=by
 have hval:(β.fV id v' aR.flatten).val id=v':=by simp [Env.fV,az]
 have EG:(β.fV id v' aR.flatten).nb id=aR.flatten:=by simp [Env.fV,az]
 have iS:∀j oj,j≠id→al (β.fV id v' aR.flatten) j oj=al β j oj:=by
  intro j oj hj
  cases oj<;>simp [al,Env.fV,az,hj]
 have C5:∀b∈v'.ownBlock.toList++aR.flatten,((w0.heap.size≤b∨S b)∧b<w'.heap.size)∧(Av h β b∨w.heap.size≤b)∧∀j oj,h j=some oj→¬G j→b ∉ φ j:=by
  intro b hb
  rcases LZ b hb with ⟨k,x,Kh,hx,h1⟩ | ⟨h1,h2⟩
  ·have h2:=ah (hc.ay k x hx) b h1
   have h3:=(hc.fresh k x hx).2 b h2
   exact⟨⟨h3.1,by omega⟩,.inl (.inl ⟨k,x,hx,h1⟩),fun j oj iQ hg=>hc.sep k j x oj (fun e=>hg (e ▸ Kh)) hx iQ b h2⟩
  ·exact⟨⟨.inl (by omega),h2⟩,.inr (by omega),fun j oj iQ _ bn=>by have:=((hc.fresh j oj iQ).2 b bn).2;omega⟩
 refine hc.mi (fun j=>j=id) hs (fun b hb hn=>hw b hb (fun k x _ hx mU=>hn (.inl ⟨k,x,hx,mU⟩))) ?_ (fun i j hj e=>dg i (e ▸ hj)) (fun j hj=>⟨by simp [Env.fV,az,hj],rfl⟩) ?_ ?_
 ·rintro b (⟨j,oj,hj,bn⟩ | hb)
  case inr=>exact .inl (.inr hb)
  by_cases b_:j=id
  ·subst b_
   rw[hh,Option.some.injEq] at hj
   subst hj
   simp only[al,hval,EG] at bn
   exact (C5 b bn).2.1
  ·rw[iS j oj b_] at bn
   exact .inl (.inl ⟨j,oj,(Du j b_ oj hj).1,bn⟩)
 ·intro j oj hj
  by_cases b_:j=id
  ·subst b_
   rw[hh,Option.some.injEq] at hj
   subst hj
   refine .inr ⟨?_,by simpa [az] using hnd,fun b hb=>(C5 b (by simpa [az] using hb)).1⟩
   exact⟨vals,aR,by rw[hval];exact aY,c3,EG,by rw[hval];simp [az]⟩
  ·obtain⟨h1,hg⟩:=Du j b_ oj hj
   refine .inl ⟨b_,h1,by simp [Env.fV,az,b_],by simp [az,b_],fun k Md e=>Ck j oj h1 (e ▸ Md),fun b hb=> ?_⟩
   have fj:=ah (hc.ay j oj h1) b hb
   exact hw b ((hc.fresh j oj h1).2 b fj).2 (fun k x Kh hx mU=>hc.sep k j x oj (fun e=>hg (e ▸ Kh)) hx h1 b (ah (hc.ay k x hx) b mU) fj)
 ·intro i j oi oj cI hi hj b hb
  by_cases kY:i=id
  ·subst kY
   have gg:j≠i:=Ne.symm cI
   simp only[az,if_true] at hb
   simp only[az,gg,if_false]
   obtain⟨h1,h2⟩:=Du j gg oj hj
   exact (C5 b hb).2.2 j oj h1 h2
  ·simp only[az,kY,if_false] at hb
   obtain⟨h1,h2⟩:=Du i kY oi hi
   by_cases b_:j=id
   ·subst b_
    simp only[az,if_true]
    exact fun ax=>(C5 b ax).2.2 i oi h1 h2 hb
   ·simp only[az,b_,if_false]
    exact hc.sep i j oi oj cI h1 (Du j b_ oj hj).1 b hb
theorem bG.append {ct:List CT} {ts:List TypeId} {r1 r2:List (List DC)} {v1 v2:List Value} {m1 m2:List (List Nat)} (h1:bG w ct ts r1 v1 (fun _=>none) m1) (hl:v1.length=r1.length*ct.length) (h2:bG w ct ts r2 v2 (fun _=>none) m2):
  bG w ct ts (r1++r2) (v1++v2) (fun _=>none) (m1++m2):=by
 refine⟨by simp [h1.1,h2.1],fun i r m hi hm=> ?_⟩
 rw[List.getElem?_append] at hi hm
 rw[h1.1] at hm
 by_cases cl:i<r1.length
 ·rw[if_pos cl] at hi hm
  have hle:i*ct.length+ct.length≤v1.length:=by rw[hl,←Nat.succ_mul];exact Nat.mul_le_mul_right _ cl
  have:=h1.2 i r m hi hm
  rw[List.drop_append_of_le_length (by omega),List.take_append_of_le_length (by simp;omega)]
  exact this
 ·rw[if_neg cl] at hi hm
  have:=h2.2 (i - r1.length) r m hi hm
  have e1:(v1++v2).drop (i*ct.length)=v2.drop ((i - r1.length)*ct.length):=by
   have Ev:v1.length≤i*ct.length:=by rw[hl];exact Nat.mul_le_mul_right _ (by omega)
   rw[List.drop_append,List.drop_of_length_le Ev,List.nil_append,hl,Nat.sub_mul]
  rw[e1]
  exact this
theorem ab.one:∀(cs:List CT) (ts:List TypeId) (ds:List DC) (us:List Value) (mb:List Nat),ab w none cs ts ds us mb→∀u∈us,u.oneCell'=true
 | [],_,_,_,_,h=>by
  simp only[ab] at h
  simp [h.2.2.1]
 | c::cs,_,_,_,_,h=>by
  rcases cU c with ⟨e,rfl⟩ | hc
  ·simp only[ab] at h
   obtain⟨t,dB,rows,aW,v,aL,m1,fQ,rfl,rfl,rfl,_,⟨vals,aA,g1,_⟩,h6,rfl⟩:=h
   intro u hu
   rcases List.mem_cons.1 hu with rfl | hu
   ·exact g1.one
   ·exact ab.one cs _ _ _ _ h6 u hu
  ·rw[ab.flat hc] at h
   obtain⟨d,aW,v,aL,rfl,rfl,h3,h4⟩:=h
   intro u hu
   rcases List.mem_cons.1 hu with rfl | hu
   ·exact h3.one
   ·exact ab.one cs _ _ _ _ h4 u hu
theorem bG.one {ct:List CT} {ts:List TypeId} {rows:List (List DC)} {vals:List Value} {aR:List (List Nat)} (h:bG w ct ts rows vals (fun _=>none) aR) (hl:vals.length=rows.length*ct.length) (hp:0<ct.length):∀u∈vals,u.oneCell'=true:=by
 intro u hu
 obtain⟨p,KG,rfl⟩:=List.getElem_of_mem hu
 have hi:p / ct.length<rows.length:=by rw[Nat.div_lt_iff_lt_mul hp];omega
 have hj:=Nat.mod_lt p hp
 have hm:p / ct.length<aR.length:=by rw[h.1];exact hi
 have hc:=h.2 (p / ct.length) rows[p / ct.length] aR[p / ct.length] (by simp) (by simp)
 refine ab.one _ _ _ _ _ hc _ (List.mem_of_getElem? (i:=p % ct.length) ?_)
 rw[List.getElem?_take,if_pos hj,List.getElem?_drop]
 have:p / ct.length*ct.length+p % ct.length=p:=by rw[Nat.mul_comm];exact Nat.div_add_mod p ct.length
 rw[this]
 simp [KG]
theorem Bg (hc:Core w0 S f h β φ tm w) {et:TypeId} {ct:List CT} {ts:List TypeId} {s:SV} {v:Value} {q:List (List DC)×List Nat} (hs:ak w (Av h β) β s v) (hq:(mP et ct ts s).val f h=some q):
  ∃vals aR,cg w et ct.length false v q.1.length vals∧bG w ct ts q.1 vals (fun _=>none) aR∧(v.ownBlock.toList++aR.flatten).Nodup∧
   ((q.2=[]∧v= .slice none 0 0∧aR=[])∨∃id,q.2=[id]∧∃x,h id=some x∧al β id x=v.ownBlock.toList++aR.flatten):=by
 unfold mP at hq
 split at hq
 ·simp only[M.aa,Option.some.injEq] at hq
  subst hq
  simp only[ak] at hs
  subst hs
  exact⟨[],[],⟨by simp,.inl ⟨rfl,rfl,rfl⟩⟩,⟨rfl,by simp⟩,by simp [Value.ownBlock],.inl ⟨rfl,rfl,rfl⟩⟩
 ·rename_i id
  simp only[M.aS,Option.bind_eq_some_iff] at hq
  obtain⟨ob,aJ,hq⟩:=hq
  simp only[ak] at hs
  split at hq
  ·rename_i t' e' dB r
   cases hb:Nat.beq t' et && aF e' ct && fv dB ts
   ·simp [hb] at hq
   simp only[hb,cond_true,M.aa,Option.some.injEq] at hq
   subst hq
   simp only[Bool.and_eq_true] at hb
   have b1:=Nat.eq_of_beq_eq_true hb.1.1
   have b2:=aM _ _ hb.1.2
   have b3:=fW _ _ hb.2
   subst b1 b2 b3
   have bL:=(hc.fresh id _ aJ).1
   obtain⟨vals,aR,g1,g2,g3,g4⟩:=hc.ay id _ aJ
   rw[g4] at bL
   rw[←hs.1] at g1 bL
   exact⟨vals,aR,g1,g2,bL,.inr ⟨id,rfl,_,aJ,by simp only[al,g3,hs.1]⟩⟩
  ·simp at hq
 ·simp at hq
theorem Ek:∀(ids:List Nat) (h:Nat→Option aj) (j:Nat),fo (gone ids) h j=if j∈ids then none else h j
 | [],h,j=>by simp [gone,fo]
 | i::l,h,j=>by
  have ih:=Ek l h j
  show az (fo (gone l) h) i none j=_
  simp only[az,List.mem_cons]
  by_cases hj:j=i
  ·simp [hj]
  ·simp only[hj,if_false,false_or]
   exact ih
theorem Cx {l m:List Nat} (hn:cX (l++m)=true):∀i∈l,i ∉ m:=by
 induction l with
 | nil=>simp
 | cons x l ih=>
  obtain⟨h1,h2⟩:=cY (i:=x) (l:=l++m) hn
  intro i hi
  rcases List.mem_cons.1 hi with rfl | hi
  ·exact fun hm=>h1 (List.mem_append_right _ hm)
  ·exact ih h2 i hi
theorem mG (hR:Rel w0 S st a w) {d:Nat} (aK:o.dst=some d) (hd:a_ st.n d) (bL:bu st d) {t et:TypeId} {s x:Operand} {c:Call} (ho:o.op= .call c) (hb:c.callee= .builtin .append) (cr:c.args= #[s,x])
  (FF:c.argTypes= #[t,t]) {ss sx:SV} {ct:List CT} {ts:List TypeId} {p q:List (List DC)×List Nat} {z:List SV} (h1:(bZ s).val st.get st.obj=some ss) (h2:(bZ x).val st.get st.obj=some sx) (hu:P.underlying t=some (.slice et))
  (dm:aX P et ct.length=true) (hp:0<ct.length) (hz:(dA P et).val st.get st.obj=some z) (jA:z.length=ct.length) (KH:(mP et ct ts ss).val st.get st.obj=some p) (KI:(mP et ct ts sx).val st.get st.obj=some q) (hnd:cX (p.2++q.2)=true)
  (ep:fb P et (p.1.length+q.1.length)=true) (eU:e.sv= .own (ag d 0)) (js:e.cw=none)
  (how:e.ow=(ag d 0,some (.deep et ct ts (p.1++q.1) none))::gone (p.2++q.2)):Good P w0 S st o e a w:=by
 obtain⟨i,hi,bq⟩:=aV dm
 obtain⟨i',zv,dI,mE,rfl,_⟩:=dk hz
 rw[hi] at dI
 injection dI with dI
 subst dI
 obtain⟨β,φ,hc⟩:=hR.core
 obtain⟨GM,Cv,o1,d1,n1,k1⟩:=Bg hc (hc.ev h1) KH
 obtain⟨B0,Cw,o2,d2,n2,k2⟩:=Bg hc (hc.ev h2) KI
 have ba:=d2.one o2.1 hp
 obtain⟨Q,cc,GC,HQ,hcell⟩:∃Q cc,a.eval x= .slice Q q.1.length cc∧(Q=none→q.1.length=0)∧∀ad,Q=some ad→∀j u,B0[j]? =some u→w.cell? (ad.add j)=some u:=by
  rcases o2.2 with ⟨hv,h0,_⟩ | ⟨g,cap,cur,hv,_⟩
  ·exact⟨none,0,by rw[hv,h0],fun _=>h0,by simp⟩
  ·refine⟨some ⟨g,0,none⟩,cap,hv,by simp,fun ad HM j u hj=> ?_⟩
   simp only[Option.some.injEq] at HM
   subst HM
   rw[de]
   have:=o2.cell (g:=g) (by rw[hv];rfl) hj
   simpa using this
 obtain⟨v',w',bo,fP,c8,jo⟩:=iM (P:=P) (ty:=o.type) (c:=cc) hu hi mE bq (by simpa using jA) hp o1 o2.1 HQ hcell ba ep
 have bC:ag d 0 / 64=d:=cK d 0 (by omega)
 have EA:∀b∈(a.eval s).ownBlock.toList++Cv.flatten,∃k y,k∈p.2∧st.obj k=some y∧b∈al β k y:=by
  intro b ax
  rcases k1 with ⟨_,hv,hm⟩ | ⟨id,dJ,y,hy,ht⟩
  ·rw[hv,hm] at ax;simp [Value.ownBlock] at ax
  ·exact⟨id,y,by rw[dJ];simp,hy,by rw[ht];exact ax⟩
 have jt:∀b∈(a.eval x).ownBlock.toList++Cw.flatten,∃k y,k∈q.2∧st.obj k=some y∧b∈al β k y:=by
  intro b ax
  rcases k2 with ⟨_,hv,hm⟩ | ⟨id,dJ,y,hy,ht⟩
  ·rw[hv,hm] at ax;simp [Value.ownBlock] at ax
  ·exact⟨id,y,by rw[dJ];simp,hy,by rw[ht];exact ax⟩
 have G6:=Cx hnd
 have Ce:∀b∈(a.eval s).ownBlock.toList++Cv.flatten,b ∉ (a.eval x).ownBlock.toList++Cw.flatten:=by
  intro b h3 h4
  obtain⟨k,y,hk,hy,Gj⟩:=EA b h3
  obtain⟨k',y',Cl,I5,ig⟩:=jt b h4
  exact hc.sep k k' y y' (fun e=>G6 k hk (e ▸ Cl)) hy I5 b (ah (hc.ay k y hy) b Gj) (ah (hc.ay k' y' I5) b ig)
 have fA:∀b,b<w.heap.size→(a.eval s).ownBlock≠some b→w'.heap[b]? =w.heap[b]? :=fun b ax cI=>c8.block b ax (fun e=>cI e.symm)
 have FJ:=d1.lt
 have FL:=d2.lt
 have Kx:∀b∈Cv.flatten,(a.eval s).ownBlock≠some b:=by
  intro b ax e
  rw[List.nodup_append] at n1
  exact n1.2.2 b (by rw[e];simp) b ax rfl
 have Ky:∀b∈Cw.flatten,(a.eval s).ownBlock≠some b:=by
  intro b ax e
  exact Ce b (List.mem_append_left _ (by rw[e];simp)) (List.mem_append_right _ ax)
 have Lt:∀b∈v'.ownBlock.toList,b∈(a.eval s).ownBlock.toList∨b=w.heap.size:=by
  intro b ax
  rcases jo with h3 | h3
  ·rw[h3] at ax;exact .inl ax
  ·rw[h3] at ax;exact .inr (by simpa using ax)
 have FU:v'.ownBlock.toList.Nodup:=by cases v'.ownBlock<;>simp
 have Hk:(v'.ownBlock.toList++(Cv++Cw).flatten).Nodup:=by
  rw[List.flatten_append,List.nodup_append]
  rw[List.nodup_append] at n1 n2
  refine⟨FU, ?_,fun b h3 b' h4 e=> ?_⟩
  ·rw[List.nodup_append]
   refine⟨n1.2.1,n2.2.1,fun b h3 b' h4 e=> ?_⟩
   subst e
   exact Ce b (List.mem_append_right _ h3) (List.mem_append_right _ h4)
  ·subst e
   rcases Lt b h3 with h5 | h5
   ·rcases List.mem_append.1 h4 with h4 | h4
    ·exact n1.2.2 b h5 b h4 rfl
    ·exact Ce b (List.mem_append_left _ h5) (List.mem_append_right _ h4)
   ·rcases List.mem_append.1 h4 with h4 | h4
    ·have:=FJ b h4;omega
    ·have:=FL b h4;omega
 have Ij:bG w' ct ts (p.1++q.1) (GM++B0) (fun _=>none) (Cv++Cw):=by
  refine bG.append ?_ o1.1 ?_
  ·exact d1.mono c8.size (fun b ax=>fA b (FJ b ax) (Kx b ax)) (fun _=>rfl)
  ·exact d2.mono c8.size (fun b ax=>fA b (FL b ax) (Ky b ax)) (fun _=>rfl)
 have IQ:cg w' et ct.length false v' (p.1++q.1).length (GM++B0):=by rw[List.length_append];exact fP
 have Is:∀b,(a.eval s).ownBlock=some b→w0.heap.size≤b∨S b:=by
  intro b ax
  obtain⟨k,y,_,hy,jq⟩:=EA b (List.mem_append_left _ (by rw[ax];simp))
  exact ((hc.fresh k y hy).2 b (ah (hc.ay k y hy) b jq)).1
 refine bI hR (fun d' h'=>by rw[aK] at h';injection h' with h';exact h' ▸ hd) (v:=v') (w':=w') ?_ (hR.kept.grown c8 Is)
  ⟨β.fV (ag d 0) v' (Cv++Cw).flatten,az φ (ag d 0) (v'.ownBlock.toList++(Cv++Cw).flatten), ?_, ?_⟩
 ·simp [execOp,ho,resolve,hb,cr,FF,invoke,builtin,GC,bo]
 ·rw[how,js]
  refine hc.compose (G:=fun k=>k∈p.2++q.2) (fun i hi=>bL.slot i _ hi bC) (fun j ob hj hi=>(bL.obj j ob hj).2 _ hi bC) ?_ (by simp [fo,az,fc]) (fun j hj y hy=> ?_) c8.size hR.kept.size (fun b ax hn=> ?_) (fun b ax=> ?_) IQ Ij Hk
  ·cases hn:st.obj (ag d 0) with
   | none=>rfl
   | some ob=>exact absurd bC (bL.obj _ ob hn).1
  ·simp only[fo,az,hj,if_false,fc] at hy
   rw[Ek] at hy
   split at hy
   ·cases hy
   ·rename_i hk
    exact⟨hy,hk⟩
  ·refine fA b ax (fun e=> ?_)
   obtain⟨k,y,hk,hy,jq⟩:=EA b (List.mem_append_left _ (by rw[e];simp))
   exact hn k y (List.mem_append_left _ hk) hy jq
  ·rcases List.mem_append.1 ax with ax | ax
   ·rcases Lt b ax with h3 | h3
    ·obtain⟨k,y,hk,hy,jq⟩:=EA b (List.mem_append_left _ h3)
     exact .inl ⟨k,y,List.mem_append_left _ hk,hy,jq⟩
    ·exact .inr ⟨h3,fP.lt b ax⟩
   ·rw[List.flatten_append] at ax
    rcases List.mem_append.1 ax with ax | ax
    ·obtain⟨k,y,hk,hy,jq⟩:=EA b (List.mem_append_right _ ax)
     exact .inl ⟨k,y,List.mem_append_left _ hk,hy,jq⟩
    ·obtain⟨k,y,hk,hy,jq⟩:=jt b (List.mem_append_right _ ax)
     exact .inl ⟨k,y,List.mem_append_right _ hk,hy,jq⟩
 ·rw[eU]
  unfold ak
  exact⟨by simp [Env.fV,az],fP.one⟩
theorem bG.cons {ct:List CT} {ts:List TypeId} {r:List DC} {l:List Value} {m:List Nat} {rows:List (List DC)} {vals:List Value} {aR:List (List Nat)} (h1:ab w none ct ts r l m) (hl:l.length=ct.length) (h2:bG w ct ts rows vals (fun _=>none) aR):
  bG w ct ts (r::rows) (l++vals) (fun _=>none) (m::aR):=by
 have:=bG.append (r1:=[r]) (v1:=l) (m1:=[m]) ⟨rfl,fun i r' m' hi hm=>by
  have Mb:i=0:=by
   have:=(List.getElem?_eq_some_iff.1 hi).1
   simpa using this
  subst Mb
  simp only[List.getElem?_cons_zero,Option.some.injEq] at hi hm
  subst hi hm
  rw[Nat.zero_mul,List.drop_zero,List.take_of_length_le (by omega)]
  exact h1⟩ (by simp [hl]) h2
 simpa using this
theorem iD (hc:Core w0 S st.get st.obj β φ a.tmps w) {ct:List CT} {ts:List TypeId} :∀(parts:List (Nat×Operand)) (k:Nat) (q:List (List DC)×List MU),(dY ct ts k parts).val st.get st.obj=some q→
  ∃(vals:List Value) (aR:List (List Nat)),vals.length=parts.length*ct.length∧q.1.length=parts.length∧bG w ct ts q.1 vals (fun _=>none) aR∧aR.flatten=q.2.flatMap (aC β)∧cR st.obj q.2∧
   ∀(pre suf:List Value),pre.length=k*ct.length→suf.length=parts.length*ct.length→
    Instr.fill (fun i=>some (i*ct.length,ct.length)) (pre++suf).toArray (parts.map fun x=>(x.1,a.eval x.2))=some (pre++vals).toArray
 | [],k,q,hq=>by
  simp only[dY,M.aa,Option.some.injEq] at hq
  subst hq
  refine⟨[],[],by simp,rfl,⟨rfl,by simp⟩,rfl,trivial,fun pre suf h1 h2=> ?_⟩
  have:suf=[]:=by simpa using h2
  subst this
  simp [Instr.fill]
 | (i,x)::rest,k,q,hq=>by
  simp only[dY] at hq
  cases DP:Nat.beq i k
  ·simp [DP] at hq
  have DP:=Nat.eq_of_beq_eq_true DP
  subst DP
  simp only[Nat.beq_refl,cond_true,M.ae,Option.bind_eq_some_iff,M.aa,Option.some.injEq] at hq
  obtain⟨s,hs,cs,fh,r,hr,q2,cu,rfl⟩:=hq
  obtain⟨eU,ba⟩:=dE (hc.ev hs) fh
  obtain⟨kG,Ks⟩:=cZ hc ct ts _ _ r eU hr
  have A7:=c7.cells _ _ _ _ _ kG
  have Ln:=(ab.length _ _ _ _ _ A7).1
  have bq:(a.eval x).cells.size=ct.length:=by simpa using Ln
  obtain⟨vals,aR,jT,Iu,jt,J6,Kt,Ch⟩:=iD hc rest (i+1) q2 cu
  refine⟨(a.eval x).cells.toList++vals,(r.2.flatMap (aC β))::aR, ?_,by simp [Iu],bG.cons A7 Ln jt,by simp [J6],Ks.append Kt, ?_⟩
  ·simp only[List.length_append,jT,List.length_cons,Array.length_toList,bq,Nat.succ_mul]
   omega
  ·intro pre suf h1 h2
   simp only[List.length_cons,Nat.succ_mul] at h2
   simp only[List.map_cons]
   rw[j6 (off:=i*ct.length) (by rw[bq]) (by simp [h1,bq];omega)]
   have e1:((pre++suf).toArray.toList.take (i*ct.length)++((a.eval x).cells.toList++(pre++suf).toArray.toList.drop (i*ct.length+(a.eval x).cells.size)))=(pre++(a.eval x).cells.toList)++suf.drop ct.length:=by
    simp only[bq,←h1]
    simp [List.drop_append]
   rw[e1,Ch (pre++(a.eval x).cells.toList) (suf.drop ct.length) (by simp [h1,bq,Nat.succ_mul]) (by simp [h2])]
   simp
theorem AY (hR:Rel w0 S st a w) {d:Nat} (aK:o.dst=some d) (hd:a_ st.n d) (bL:bu st d) {t et:TypeId} {len:Nat} {parts:Array (Nat×Operand)} (ho:o.op= .buildSlice t len parts) {ct:List CT} {ts:List TypeId} {q:List (List DC)×List MU}
  (hu:P.underlying t=some (.slice et)) (dm:aX P et ct.length=true) (jw:0<ct.length) (hlen:len=parts.toList.length) (IZ:len*ct.length≤16777216) (hz:∃z,(dA P et).val st.get st.obj=some z)
  (hq:(dY ct ts 0 parts.toList).val st.get st.obj=some q) (hn:cX (bm q.2)=true)
  (he:e= {sv:= .own (ag d 0),ow:=(ag d 0,some (.deep et ct ts q.1 none))::d8 q.2}):Good P w0 S st o e a w:=by
 subst he
 obtain⟨i,hi,bq⟩:=aV dm
 obtain⟨β,φ,hc⟩:=hR.core
 obtain⟨vals,aR,AJ,FQ,c3,eb,B5,kE⟩:=iD hc parts.toList 0 q hq
 obtain⟨z,hz⟩:=hz
 obtain⟨i',zv,dI,mE,_,_⟩:=dk hz
 rw[hi] at dI
 injection dI with dI
 subst dI
 have hle:len≤maxLen:=by
  have:len≤len*ct.length:=Nat.le_mul_of_pos_right _ jw
  simp only[maxLen]
  omega
 have bo:(Instr.buildSlice t len (parts.map fun x=>(x.1,a.eval x.2))).run P w= .ok (.slice (some ⟨w.heap.size,0,none⟩) len len) (w.alloc (.cells vals.toArray et)):=by
  rcases Nat.eq_zero_or_pos len with h0 | h0
  ·have hp:parts= #[]:=by
    have:parts.toList.length=0:=by omega
    simpa using this
   have hv:vals=[]:=by
    have:vals.length=0:=by rw[AJ,←hlen,h0,Nat.zero_mul]
    simpa using this
   subst hp hv h0
   simp [Instr.buildSlice,run_underlying hu,sizeOf,typeInfo,hi,Instr.fill,newRow,Array.range_zero']
  ·refine run_buildSlice (P:=P) w t et len _ vals.toArray i zv hu hi mE (by rw[bq];omega) (by rw[bq];exact Nat.ne_of_gt (Nat.mul_pos h0 jw)) ?_
   have:=kE [] ((Array.range (len*ct.length)).map (zv.cells[· % zv.cells.size]!)).toList (by simp) (by simp [hlen])
   rw[bq]
   generalize (Array.range (len*ct.length)).map (zv.cells[· % zv.cells.size]!)=A at this ⊢
   simpa using this
 have bC:ag d 0 / 64=d:=cK d 0 (by omega)
 have Ba:=dK hc B5 hn
 have JA:∀b∈q.2.flatMap (aC β),∃k∈bm q.2,∃ob,st.obj k=some ob∧b∈al β k ob:=db B5
 have cl:=c3.lt
 have aY:cg (w.alloc (.cells vals.toArray et)) et ct.length false (.slice (some ⟨w.heap.size,0,none⟩) len len) q.1.length vals:=by
  refine⟨by rw[AJ,FQ],.inr ⟨w.heap.size,len,vals.toArray,by rw[FQ,←hlen],by simpa using dX _,by rw[FQ,←hlen];exact Nat.le_refl _,hle,by simp [AJ,hlen], ?_⟩⟩
  rw[FQ,←AJ]
  simp
 refine bI hR (fun d' h'=>by rw[aK] at h';injection h' with h';exact h' ▸ hd) (v:= .slice (some ⟨w.heap.size,0,none⟩) len len) (w':=w.alloc (.cells vals.toArray et)) ?_ (hR.kept.alloc _)
  ⟨β.fV (ag d 0) (.slice (some ⟨w.heap.size,0,none⟩) len len) aR.flatten,az φ (ag d 0) ([w.heap.size]++aR.flatten), ?_, ?_⟩
 ·simp [execOp,ho,bo]
 ·refine hc.compose (v':= .slice (some ⟨w.heap.size,0,none⟩) len len) (G:=fun k=>k∈bm q.2) (fun i hi=>bL.slot i _ hi bC) (fun j ob hj hi=>(bL.obj j ob hj).2 _ hi bC) ?_ (by simp [fo,az,fc]) (fun j hj y hy=> ?_) (by rw[ch];omega) hR.kept.size (fun b ax _=>alloc_old _ b ax) (fun b ax=> ?_) aY (c3.mono (by rw[ch];omega) (fun b ax=>alloc_old _ b (cl b ax)) (fun _=>rfl)) ?_
  ·cases hn:st.obj (ag d 0) with
   | none=>rfl
   | some ob=>exact absurd bC (bL.obj _ ob hn).1
  ·simp only[fo,az,hj,if_false,fc] at hy
   rw[Aw] at hy
   split at hy
   ·cases hy
   ·rename_i hk
    exact⟨hy,hk⟩
  ·rcases List.mem_append.1 ax with ax | ax
   ·right
    have:b=w.heap.size:=by simpa [Value.ownBlock] using ax
    exact⟨this,by rw[ch];omega⟩
   ·left
    rw[eb] at ax
    obtain⟨k,hk,ob,h3,h4⟩:=JA b ax
    exact⟨k,ob,hk,h3,h4⟩
  ·rw[List.nodup_append]
   refine⟨by simp [Value.ownBlock],by rw[eb];exact Ba,fun b h3 b' h4 e=> ?_⟩
   subst e
   have h5:b=w.heap.size:=by simpa [Value.ownBlock] using h3
   have:=cl b h4
   omega
 ·unfold ak
  exact⟨by simp [Env.fV,az],rfl⟩
end
end Go.Proofs.YtoaflbnkiobhdaaGreat.Vm
set_option linter.unusedVariables false
set_option linter.unusedSimpArgs false
namespace Go.Proofs.YtoaflbnkiobhdaaGreat.Vm
section
variable {P:Program} {Γ:Ctx} {w0:World} {S:Own} {st:St} {o:Oper} {e:cF} {a:Act} {w:World}
variable {f:Nat→SV} {h:Nat→Option aj} {β:Env} {φ:Nat→List Nat} {tm:Array Value}
def bw (b:List UInt8):List Value:=b.map fun c=>Value.int .u8 c.toNat
theorem dG (k:Nat) (b:List UInt8) (w:World):(Builtin.firstCells k b.length (.string ⟨b.toArray⟩)).run P w= .ok (bw b).toArray w:=by
 have:((⟨b.toArray⟩:ByteArray).extract 0 b.length).data.map (fun c=>Value.int .u8 c.toNat)=(bw b).toArray:=by
  rw[hX]
  simp [bw]
 simp only[Builtin.firstCells,Sem.run_pure,this]
theorem Bd {t u ty et:TypeId} {i:TypeInfo} {zv:Value} (ht:P.underlying t=some (.slice et)) (hu:P.underlying u=some .string) (hi:P.info? et=some i) (hz:i.zero=some zv) (dm:i.size=1) (KT:zv.cells.size=1)
  {v:Value} {n:Nat} {vals:List Value} (aY:cg w et 1 false v n vals) (b:List UInt8) (ep:fb P et (n+b.length)=true):
  ∃v' w',(Builtin.append_ #[t,u] ty #[v,.string ⟨b.toArray⟩]).run P w= .ok v' w'∧cg w' et 1 false v' (n+b.length) (vals++bw b)∧w.grownBy w' v.ownBlock∧(v'.ownBlock=v.ownBlock∨v'.ownBlock=some w.heap.size):=by
 obtain⟨Eo,Iw⟩:=BJ hi ep
 have KM:n+b.length≤9223372036854775807:=by simp only[maxLen] at Iw;omega
 have Hl:(bw b).length=b.length:=by simp [bw]
 have ba:∀u∈bw b,u.oneCell'=true:=by
  intro u hu
  obtain⟨c,_,rfl⟩:=List.mem_map.1 hu
  rfl
 have hlen:(vals++bw b).length=(n+b.length)*1:=by rw[List.length_append,aY.1,Hl];omega
 have grown:∀(lr:Nat),lr<n+b.length→∀(row:Option Nat),
   cg (w.drew.alloc (.cells (vals.toArray++(bw b).toArray++Builtin.zeroCells zv.cells (grownCap w (n+b.length) lr et - (n+b.length))) et)) et 1 false
    (.slice (some ⟨w.heap.size,0,none⟩) (n+b.length) (grownCap w (n+b.length) lr et)) (n+b.length) (vals++bw b)∧
   w.grownBy (w.drew.alloc (.cells (vals.toArray++(bw b).toArray++Builtin.zeroCells zv.cells (grownCap w (n+b.length) lr et - (n+b.length))) et)) row:=by
  intro lr ho row
  have Ev:=grownCap_ge w (n+b.length) lr et
  have DN:grownCap w (n+b.length) lr et≤maxLen:=grownCap_le_maxLen w (n+b.length) lr et Iw
  refine⟨⟨hlen,.inr ⟨w.heap.size,_,_,rfl,heap_alloc_new w.drew _,Ev,DN, ?_, ?_⟩⟩,⟨rfl,rfl,rfl,by simp,fun k hk _=>heap_alloc_old w.drew _ hk⟩⟩
  ·simp only[Array.size_append,List.size_toArray,size_zeroCells,KT,aY.1,Hl]
   omega
  ·simp only[Array.toList_append,List.append_assoc]
   rw[←List.append_assoc,←hlen]
   exact List.take_left
 rcases aY.2 with ⟨rfl,rfl,_⟩ | ⟨g,cap,cur,rfl,hg,AD,DN,fh,EO⟩
 ·have hx:vals=[]:=List.eq_nil_of_length_eq_zero (by simpa using aY.1)
  subst hx
  by_cases hm:b.length=0
  ·have LW:b=[]:=List.eq_nil_of_length_eq_zero hm
   subst LW
   refine⟨.slice none 0 0,w, ?_,⟨by simp [bw],.inl ⟨rfl,rfl,rfl⟩⟩,⟨rfl,rfl,rfl,Nat.le_refl _,fun _ _ _=>rfl⟩,.inl rfl⟩
   have hf:=dG (P:=P) i.size [] w
   simp [Builtin.append_,run_underlying ht,run_underlying hu,sizeOf,typeInfo,hi,Builtin.lenOf,dj] at hf ⊢
   simp [hf]
  ·have hn:¬(b.length=0):=hm
   have GY:¬(9223372036854775807<(b.length:Int)):=by omega
   have GX:¬(281474976710656<Builtin.nextslicecap b.length 0*i.bytes):=by
    have hb:=Eo
    rw[Nat.zero_add] at hb
    rw[nextslicecap_zero (by omega)]
    omega
   have hf:=dG (P:=P) i.size b w.drew
   have hr:(Builtin.append_ #[t,u] ty #[.slice none 0 0,.string ⟨b.toArray⟩]).run P w=
     .ok (.slice (some ⟨w.heap.size,0,none⟩) b.length (grownCap w b.length 0 et)) (w.drew.alloc (.cells ((bw b).toArray++Builtin.zeroCells zv.cells (grownCap w b.length 0 et - b.length)) et)):=by
    simp [Builtin.append_,run_underlying ht,run_underlying hu,sizeOf,typeInfo,zeroValue,hi,hz,Builtin.lenOf,dj,hn,GY,GX,Question.forced,run_firstCells_none,hf,newRow,grownCap]
   have HP:=grown 0 (by omega) (Value.ownBlock (.slice none 0 0))
   simp only[Nat.zero_add,List.nil_append,Array.empty_append] at HP ⊢
   exact⟨_,_,hr,HP.1,HP.2,.inr rfl⟩
 ·by_cases Es:n+b.length≤cap
  ·have dH:n*1+(bw b).length≤cur.size:=by rw[Hl,fh];omega
   have hf:=dG (P:=P) 1 b w
   have HO:w.heap[g]? =some (.cells cur et (0,0)):=by simpa using hg
   have gT:=run_storeCells_at P g (n*1) et (bw b) 0 cur w HO (by simpa using dH) ba
   simp only[Nat.add_zero] at gT
   have hr:(Builtin.append_ #[t,u] ty #[.slice (some ⟨g,0,none⟩) n cap,.string ⟨b.toArray⟩]).run P w=
     .ok (.slice (some ⟨g,0,none⟩) (n+b.length) cap) (w.setRow g (cur.toList.take (n*1)++bw b++cur.toList.drop (n*1+(bw b).length)).toArray):=by
    simp only[Nat.mul_one] at gT
    simp [Builtin.append_,run_underlying ht,run_underlying hu,sizeOf,typeInfo,hi,dm,Builtin.lenOf,dj,Es,hf,Addr.add_lit,gT]
   refine⟨_,_,hr,⟨hlen,.inr ⟨g,cap,_,rfl,setRow_heap w g cur _ et _ HO,Es,DN, ?_, ?_⟩⟩,⟨rfl,rfl,rfl,by simp,fun k _ hk=>setRow_other w g k _ (fun e=>hk (by simp [Value.ownBlock,e]))⟩,.inl rfl⟩
   ·simp only[List.size_toArray,List.length_append,List.length_take,List.length_drop,Array.length_toList]
    omega
   ·simp only[List.append_assoc]
    have EP:cur.toList.take (n*1)=vals:=EO
    rw[EP,←hlen]
    rw[←List.append_assoc]
    exact List.take_left
  ·have holds:∀j u,vals[j]? =some u→w.cell? ((⟨g,0,none⟩:Addr).add j)=some u:=aY.owns.cells (g:=g) rfl
   have hn:¬(n+b.length≤cap):=Es
   have GY:¬(9223372036854775807<((n:Int)+(b.length:Int))):=by omega
   have GX:¬(281474976710656<Builtin.nextslicecap (n+b.length) cap*i.bytes):=by
    have:=growslice_fits (bytes:=i.bytes) (show cap<n+b.length by omega) Eo
    omega
   have hf:=dG (P:=P) i.size b w.drew
   have Jv:=run_firstCells_some (P:=P) w.drew i.size n ⟨g,0,none⟩ n cap vals (by rw[dm];exact aY.1) (by simpa using holds)
   have hr:(Builtin.append_ #[t,u] ty #[.slice (some ⟨g,0,none⟩) n cap,.string ⟨b.toArray⟩]).run P w=
     .ok (.slice (some ⟨w.heap.size,0,none⟩) (n+b.length) (grownCap w (n+b.length) cap et)) (w.drew.alloc (.cells (vals.toArray++(bw b).toArray++Builtin.zeroCells zv.cells (grownCap w (n+b.length) cap et - (n+b.length))) et)):=by
    simp [Builtin.append_,run_underlying ht,run_underlying hu,sizeOf,typeInfo,zeroValue,hi,hz,Builtin.lenOf,dj,hn,GY,GX,Question.forced,hf,Jv,newRow,grownCap]
    congr 2
    apply Array.ext'
    simp [List.append_assoc]
   have HP:=grown cap (by omega) (Value.ownBlock (.slice (some ⟨g,0,none⟩) n cap))
   exact⟨_,_,hr,HP.1,HP.2,.inr rfl⟩
theorem Fm (b:List UInt8):dC w [.int .u8] (b.map cO) (bw b) (List.replicate b.length []):=by
 refine⟨by simp [bw],fun k r' f' hk hf=> ?_⟩
 have Fs:k<b.length:=by
  have:=(List.getElem?_eq_some_iff.1 hk).1
  simpa using this
 have EJ:r'=cO b[k]:=by
  rw[List.getElem?_map,List.getElem?_eq_getElem Fs] at hk
  simpa using hk.symm
 have A8:f'=[]:=by
  have:=List.mem_of_getElem? hf
  exact (List.mem_replicate.1 this).2
 subst EJ A8
 unfold cO
 simp only[aZ,bU]
 refine⟨.int b[k].toNat,[],.int .u8 b[k].toNat,[],[],rfl, ?_,⟨_,rfl,rfl, ?_,rfl⟩,⟨rfl,rfl⟩,rfl⟩
 ·simp only[bw,List.length_cons,List.length_nil,Nat.zero_add,Nat.mul_one,Nat.add_zero]
  rw[List.getElem?_map,List.getElem?_eq_getElem Fs]
  rfl
 ·rw[ec]
  have h1:IntKind.u8.min=0:=by decide
  have h2:IntKind.u8.max=255:=by decide
  have:=b[k].toNat_lt
  omega
theorem mH (hR:Rel w0 S st a w) (hd:∀d,o.dst=some d→a_ st.n d) (bL:e.ow≠[]→∀d,o.dst=some d→bu st d) {t t':TypeId} {s x:Operand} {c:Call} (ho:o.op= .call c) (hb:c.callee= .builtin .append) (cr:c.args= #[s,x])
  (FF:c.argTypes= #[t,t']) {sx sy:SV} (h1:(bZ s).val st.get st.obj=some sx) (h2:(bZ x).val st.get st.obj=some sy) (he:(An P o.dst t t' sx sy).val st.get st.obj=some e) (aI:e.ok=true):Good P w0 S st o e a w:=by
 unfold An at he
 split at he
 case h_2=>simp at he
 rename_i et d id b hu Cq aK
 simp only[M.aS,Option.bind_eq_some_iff] at he
 obtain⟨ob,aJ,he⟩:=he
 split at he
 case h_2=>simp at he
 rename_i t1 ct r u
 cases mD:Nat.beq t1 et && aF ct [.int .u8] && aX P et 1
 ·simp [mD] at he
 simp only[mD,cond_true,M.ae,Option.bind_eq_some_iff] at he
 obtain⟨z,hz,he⟩:=he
 cases jA:Nat.beq z.length 1
 ·simp [jA] at he
 simp only[jA,cond_true,M.aa,Option.some.injEq] at he
 simp only[Bool.and_eq_true] at mD
 have JF:=Nat.eq_of_beq_eq_true mD.1.1
 have Bn:=aM _ _ mD.1.2
 subst JF Bn
 have bL:=bL (by rw[←he];simp) d aK
 have ep:fb P t1 (r.length+b.length)=true:=by rw[←he] at aI;exact aI
 have FV:=Nat.eq_of_beq_eq_true jA
 obtain⟨i,hi,bq⟩:=aV mD.2
 obtain⟨i',zv,dI,mE,rfl,_⟩:=dk hz
 rw[hi] at dI
 injection dI with dI
 subst dI
 obtain⟨β,φ,hc⟩:=hR.core
 have EK:=hc.ev h1
 simp only[ak] at EK
 have Lu:=hc.ev h2
 simp only[ak] at Lu
 obtain⟨vals,aA,aY,c3,Hd,ki⟩:=hc.ay id _ aJ
 obtain⟨v',w',bo,fP,c8,jo⟩:=Bd (P:=P) (ty:=o.type) hu Cq hi mE bq (by simpa using FV) aY b ep
 have eb:aA.flatten=[]:=c3.flat rfl
 have Hx:φ id=(β.val id).ownBlock.toList:=by rw[ki,eb];cases u<;>simp
 have bC:ag d 0 / 64=d:=cK d 0 (by omega)
 have Io:id≠ag d 0:=fun e=>(bL.obj id _ aJ).1 (e ▸ bC)
 have fY:∀j,j≠ag d 0→(β.fE (ag d 0) v').val j=β.val j∧(β.fE (ag d 0) v').cS j=β.cS j:=by
  intro j hj
  exact⟨by simp [Env.fE,az,hj],rfl⟩
 have hval:(β.fE (ag d 0) v').val (ag d 0)=v':=by simp [Env.fE,az]
 have bt:=hc.fresh id _ aJ
 have AE:v'.ownBlock.toList.Nodup:=by cases v'.ownBlock<;>simp
 have mZ:∀b∈v'.ownBlock.toList,b∈φ id∨b=w.heap.size:=by
  intro b ax
  rcases jo with h3 | h3
  ·rw[h3] at ax
   exact .inl (by rw[Hx];exact ax)
  ·rw[h3] at ax
   exact .inr (by simpa using ax)
 have gR:∀b,(β.val id).ownBlock=some b→b∈φ id:=fun b ax=>by rw[Hx,ax];simp
 have jv:∀j oj,az (az st.obj id none) (ag d 0) (some (.row t1 [.int .u8] (r++b.map cO) false u)) j=some oj→j≠ag d 0→j≠id∧st.obj j=some oj:=by
  intro j oj hj lS
  simp only[az,lS,if_false] at hj
  split at hj
  ·cases hj
  ·exact⟨by assumption,hj⟩
 have fA:∀b,b<w.heap.size→(β.val id).ownBlock≠some b→w'.heap[b]? =w.heap[b]? :=fun b ax cI=>c8.block b ax (fun e=>cI e.symm)
 have Bv:∀b∈v'.ownBlock.toList,∀j oj,j≠id→st.obj j=some oj→b ∉ φ j:=by
  intro b ax j oj hj iQ bn
  rcases mZ b ax with h3 | h3
  ·exact hc.sep id j _ _ (Ne.symm hj) aJ iQ b h3 bn
  ·have:=((hc.fresh j oj iQ).2 b bn).2
   omega
 have Az:∀b',Av (az (az st.obj id none) (ag d 0) (some (.row t1 [.int .u8] (r++b.map cO) false u))) (β.fE (ag d 0) v') b'→Av st.obj β b'∨w.heap.size≤b':=by
  rintro b' (⟨j,oj,hj,bn⟩ | hb)
  case inr=>exact .inl (.inr hb)
  by_cases b_:j=ag d 0
  ·subst b_
   simp only[az,if_true,Option.some.injEq] at hj
   subst hj
   simp only[al,hval] at bn
   rcases mZ b' bn with h3 | h3
   ·exact .inl (.inl ⟨id,_,aJ,by simp only[al];rw[←Hx];exact h3⟩)
   ·exact .inr (by omega)
  ·obtain⟨_,fO⟩:=jv j oj hj b_
   refine .inl (.inl ⟨j,oj,fO, ?_⟩)
   cases oj<;>simp only[al,fY j b_] at bn ⊢ <;>exact bn
 refine bI hR hd (v:=v') (w':=w') ?_ (hR.kept.grown c8 (fun b ax=>(bt.2 b (gR b ax)).1))
  ⟨β.fE (ag d 0) v',az φ (ag d 0) v'.ownBlock.toList, ?_, ?_⟩
 ·simp [execOp,ho,resolve,hb,cr,FF,invoke,builtin,EK.1,Lu.1,bo]
 ·rw[←he]
  show Core w0 S st.get (az (az st.obj id none) (ag d 0) (some (.row t1 [.int .u8] (r++b.map cO) false u))) _ _ _ _
  refine hc.step (fun j=>j=ag d 0) c8.size (fun b ax hn=>fA b ax (fun e=>hn (.inl ⟨id,_,aJ,by simp [al,e]⟩))) Az
   (fun k j hj e=>bL.slot k j hj (by rw[e];exact bC)) fY ?_ ?_
  ·intro j oj hj
   by_cases b_:j=ag d 0
   ·subst b_
    have fO:=hj
    simp only[az,if_true,Option.some.injEq] at fO
    subst fO
    refine .inr ⟨?_,by simp only[az,if_true];exact AE, ?_⟩
    ·have lR:=(c3.append (by simpa using aY.1) (Fm (w:=w) b)).mono (w':=w') c8.size (fun b ax=>by
      rw[List.flatten_append,eb] at ax
      simp at ax)
     refine⟨vals++bw b,aA++List.replicate b.length [], ?_,lR, ?_, ?_⟩
     ·rw[hval]
      have:(r++b.map cO).length=r.length+b.length:=by simp
      rw[this]
      exact fP
     ·rw[List.flatten_append,eb]
      simp
     ·rw[hval,List.flatten_append,eb]
      cases u<;>simp [az]
    ·simp only[az,if_true]
     intro b ax
     rcases mZ b ax with h3 | h3
     ·have:=bt.2 b h3
      exact⟨this.1,by have:=c8.size;omega⟩
     ·subst h3
      exact⟨.inl hR.kept.size,fP.lt _ ax⟩
   ·obtain⟨gg,fO⟩:=jv j oj hj b_
    refine .inl ⟨b_,fO,by simp [az,b_], ?_, ?_⟩
    ·intro k hk e
     exact (bL.obj j oj fO).2 k hk (by rw[e];exact bC)
    ·intro b ax
     have fj:=ah (hc.ay j oj fO) b ax
     refine fA b ((hc.fresh j oj fO).2 b fj).2 (fun e=> ?_)
     exact hc.sep id j _ _ (Ne.symm gg) aJ fO b (gR b e) fj
  ·intro k j ok oj cI hk hj b ax
   by_cases Hf:k=ag d 0
   ·subst Hf
    have lS:j≠ag d 0:=Ne.symm cI
    obtain⟨gg,fO⟩:=jv j oj hj lS
    simp only[az,if_true] at ax
    simp only[az,lS,if_false]
    exact Bv b ax j oj gg fO
   ·obtain⟨mW,Cl⟩:=jv k ok hk Hf
    simp only[az,Hf,if_false] at ax
    by_cases b_:j=ag d 0
    ·subst b_
     simp only[az,if_true]
     exact fun h3=>Bv b h3 k ok mW Cl ax
    ·obtain⟨gg,fO⟩:=jv j oj hj b_
     simp only[az,b_,if_false]
     exact hc.sep k j ok oj cI Cl fO b ax
 ·rw[←he]
  unfold ak
  exact⟨hval.symm,fP.one⟩
end
end Go.Proofs.YtoaflbnkiobhdaaGreat.Vm
namespace Go.Proofs.YtoaflbnkiobhdaaGreat.Vm
theorem mj {α:Type} {l:Array α} {x:α} (h:l.toList=[x]):l= #[x]:=by
 cases l;simp at h;subst h;rfl
theorem bJ {α:Type} {l:Array α} {x y:α} (h:l.toList=[x,y]):l= #[x,y]:=by
 cases l;simp at h;subst h;rfl
theorem BG {P:Program} {Γ:Ctx} {w0:World} {S:Own} {st:St} {o:Oper} {e:cF} {a:Act} {w:World} (eF:bD P Γ) (hR:Rel w0 S st a w)
  (hv:(evalOp P Γ o).val st.get st.obj=some e) (aI:e.ok=true) (hd:∀d,o.dst=some d→a_ st.n d) (bL:e.ow≠[]→∀d,o.dst=some d→bu st d):Good P w0 S st o e a w:=by
 unfold evalOp at hv
 split at hv
 ·rename_i x ho
  simp only[M.ae,Option.bind_eq_some_iff,M.aa,Option.some.injEq] at hv
  obtain⟨s,h1,rfl⟩:=hv
  exact mg hR hd (.inl ho) h1 rfl
 ·rename_i x ho
  simp only[M.ae,Option.bind_eq_some_iff,M.aa,Option.some.injEq] at hv
  obtain⟨s,h1,rfl⟩:=hv
  exact mg hR hd (.inr ho) h1 rfl
 ·rename_i c x y ho
  simp only[M.ae,Option.bind_eq_some_iff] at hv
  obtain⟨sc,h0,sx,h1,sy,h2,hv⟩:=hv
  exact CQ hR hd ho h0 h1 h2 hv
 ·rename_i t ho
  split at hv
  ·rename_i d aK
   simp only[M.ae,Option.bind_eq_some_iff,M.aa,Option.some.injEq] at hv
   obtain⟨z,hz,rfl⟩:=hv
   exact BL hR aK (hd d aK) (bL (by simp) d aK) ho hz rfl
  ·simp at hv
 ·rename_i t x ho
  split at hv
  ·rename_i d aK
   simp only[M.ae,Option.bind_eq_some_iff,M.aa,Option.some.injEq] at hv
   obtain⟨s,hs,cs,fh,rfl⟩:=hv
   exact DJ hR aK (hd d aK) (bL (by simp) d aK) ho hs fh rfl
  ·simp at hv
 ·rename_i t parts ho
  split at hv
  ·rename_i fs hu
   split at hv
   ·rename_i places hp
    simp only[M.ae,Option.bind_eq_some_iff,M.aa,Option.some.injEq] at hv
    obtain⟨z,hz,cs,fh,rfl⟩:=hv
    exact BM hR hd ho hu hp hz fh rfl
   ·simp at hv
  ·simp at hv
 ·rename_i t len parts ho
  cases eo:mq Γ o.dst with
  | true=>
   simp only[eo,cond_true] at hv
   unfold Ef at hv
   split at hv
   ·rename_i et d hu aK
    split at hv
    ·rename_i ct ts Bn Fv
     cases hb:aX P et ct.length && Nat.blt 0 ct.length && Nat.beq len parts.toList.length && Nat.ble (len*ct.length) 16777216
     ·simp only[hb,cond_false,M.ml,reduceCtorEq] at hv
     simp only[hb,cond_true,M.ae,Option.bind_eq_some_iff] at hv
     obtain⟨z,hz,q,hq,hv⟩:=hv
     cases hn:cX (bm q.2)
     ·simp [hn] at hv
     simp only[hn,cond_true,M.aa,Option.some.injEq] at hv
     simp only[Bool.and_eq_true] at hb
     exact AY hR aK (hd d aK) (bL (by rw[←hv];simp) d aK) ho hu hb.1.1.1 (Nat.le_of_ble_eq_true hb.1.1.2) (Nat.eq_of_beq_eq_true hb.1.2) (Nat.le_of_ble_eq_true hb.2) ⟨z,hz⟩ hq hn hv.symm
    ·simp at hv
   ·simp at hv
  | false=>
  simp only[eo,cond_false] at hv
  split at hv
  ·rename_i et d hu aK
   split at hv
   ·rename_i ct Bn
    cases hb:aX P et ct.length && Nat.blt 0 ct.length && Nat.beq len parts.toList.length && Nat.ble (len*ct.length) 16777216
    ·simp only[hb,cond_false,M.ml,reduceCtorEq] at hv
    simp only[hb,cond_true,M.ae,Option.bind_eq_some_iff] at hv
    obtain⟨z,hz,q,hq,hv⟩:=hv
    cases hn:aN q.2.1
    ·simp [hn] at hv
    simp only[hn,cond_true,M.aa,Option.some.injEq] at hv
    simp only[Bool.and_eq_true] at hb
    exact kq hR aK (hd d aK) (bL (by rw[←hv];simp) d aK) ho hu hb.1.1.1 (Nat.le_of_ble_eq_true hb.1.1.2) (Nat.eq_of_beq_eq_true hb.1.2) (Nat.le_of_ble_eq_true hb.2) hq ⟨z,hz⟩ hn hv.symm
   ·simp at hv
  ·simp at hv
 ·rename_i t x ho
  simp only[M.ae,Option.bind_eq_some_iff] at hv
  obtain⟨s,h1,hv⟩:=hv
  unfold GD at hv
  split at hv
  ·rename_i id i z off
   simp only[M.aS,Option.bind_eq_some_iff] at hv
   obtain⟨ob,aJ,hv⟩:=hv
   split at hv
   ·rename_i t' ct ts rows hl
    cases eo:mq Γ o.dst with
    | false=>
     simp only[eo,cond_false] at hv
     exact BP hR hd ho h1 aJ hv aI
    | true=>
     simp only[eo,cond_true] at hv
     cases DM:bf P t with
     | true=>
      simp only[DM,cond_true] at hv
      unfold GK at hv
      split at hv
      ·rename_i e' t1 d j iR aK Kf
       cases hb:Nat.beq z ct.length && Nat.beq (aB ct) 1 && Nat.ble (off+j.size) ct.length
       ·simp [hb] at hv
       simp only[hb,cond_true,M.aa,Option.some.injEq] at hv
       simp only[Bool.and_eq_true] at hb
       obtain⟨⟨b1,b2⟩,b3⟩:=hb
       have b1:=Nat.eq_of_beq_eq_true b1
       subst b1
       have hi:i<rows.length:=by rw[←hv] at aI;simpa using aI
       exact BS hR aK (hd d aK) (bL (by rw[←hv];simp) d aK) ho h1 aJ iR (Nat.eq_of_beq_eq_true b2) DM Kf (Nat.le_of_ble_eq_true b3) hi (by rw[←hv]) (by rw[←hv]) (by rw[←hv])
      ·simp at hv
     | false=>
     simp only[DM,cond_false] at hv
     unfold GL at hv
     split at hv
     ·rename_i e' t1 d iR aK
      cases hb:Nat.beq z ct.length && Nat.beq (aB ct) 1 && !(bf P t) && (P.underlying t).isSome
      ·simp [hb] at hv
      simp only[hb,cond_true,M.aa,Option.some.injEq] at hv
      simp only[Bool.and_eq_true,Bool.not_eq_true'] at hb
      obtain⟨⟨⟨b1,b2⟩,b3⟩,b4⟩:=hb
      have b1:=Nat.eq_of_beq_eq_true b1
      subst b1
      obtain⟨td,hu⟩:=Option.isSome_iff_exists.1 b4
      have hi:i<rows.length:=by rw[←hv] at aI;simpa using aI
      exact CR hR aK (hd d aK) (bL (by rw[←hv];simp) d aK) ho h1 aJ iR (Nat.eq_of_beq_eq_true b2) b3 hu hi (by rw[←hv]) (by rw[←hv]) (by rw[←hv])
     ·simp at hv
   ·exact mf hR hd ho h1 hv aI
  ·exact mf hR hd ho h1 hv aI
 ·rename_i t x y ho
  simp only[M.ae,Option.bind_eq_some_iff] at hv
  obtain⟨sx,h1,sy,h2,hv⟩:=hv
  have plain:(A2 P t sx sy).val st.get st.obj=some e→Good P w0 S st o e a w:=by
   clear hv
   intro hv
   unfold A2 at hv
   simp only[M.ae,Option.bind_eq_some_iff] at hv
   obtain⟨bK,fh,hv⟩:=hv
   cases dm:aX P t bK.length
   ·simp [dm] at hv
   simp only[dm,cond_true] at hv
   split at hv
   ·rename_i id off
    simp only[M.aS,Option.bind_eq_some_iff] at hv
    obtain⟨ob,aJ,hv⟩:=hv
    split at hv
    ·rename_i t' cells
     cases dH:Nat.ble (off+bK.length) cells.length
     ·simp [dH] at hv
     simp only[dH,cond_true,M.aa,Option.some.injEq] at hv
     exact k9 hR hd ho h1 h2 fh dm aJ (Nat.le_of_ble_eq_true dH) hv.symm
    ·simp at hv
   ·rename_i id i z off
    simp only[M.aS,Option.bind_eq_some_iff] at hv
    obtain⟨ob,aJ,hv⟩:=hv
    split at hv
    ·rename_i t' ct rows fz u
     cases dH:Nat.beq z ct.length && Nat.ble (off+bK.length) ct.length
     ·simp [dH] at hv
     simp only[dH,cond_true,M.ae,Option.bind_eq_some_iff] at hv
     obtain⟨r,hr,hv⟩:=hv
     cases hm:bO id r.2.1 && aN r.2.1
     ·simp [hm] at hv
     simp only[hm,cond_true,M.aa,Option.some.injEq] at hv
     simp only[Bool.and_eq_true] at dH hm
     have hz:=Nat.eq_of_beq_eq_true dH.1
     subst hz
     have hi:i<rows.length:=by rw[←hv] at aI;simpa using aI
     exact la hR hd ho h1 h2 fh dm aJ (Nat.le_of_ble_eq_true dH.2) hr hm.1 hm.2 hi (by rw[←hv]) (by rw[←hv]) (by rw[←hv])
    ·simp at hv
   ·simp at hv
  unfold Fl at hv
  split at hv
  ·rename_i id i z off
   simp only[M.aS,Option.bind_eq_some_iff] at hv
   obtain⟨ob,aJ,hv⟩:=hv
   split at hv
   ·rename_i t' ct ts rows hl
    unfold Fk at hv
    simp only[M.ae,Option.bind_eq_some_iff] at hv
    obtain⟨bK,fh,hv⟩:=hv
    cases dm:aX P t bK.length && Nat.beq z ct.length && Nat.ble (off+bK.length) ct.length
    ·simp [dm] at hv
    simp only[dm,cond_true] at hv
    simp only[Bool.and_eq_true] at dm
    obtain⟨⟨s1,s2⟩,s3⟩:=dm
    have s2:=Nat.eq_of_beq_eq_true s2
    subst s2
    have s3:=Nat.le_of_ble_eq_true s3
    cases hf:aq ((ct.drop off).take bK.length) with
    | true=>
     simp only[hf,cond_true,M.ae,Option.bind_eq_some_iff] at hv
     obtain⟨r,hr,hv⟩:=hv
     cases hm:r.2.1.isEmpty
     ·simp [hm] at hv
     simp only[hm,cond_true,M.aa,Option.some.injEq] at hv
     have hi:i<rows.length:=by rw[←hv] at aI;simpa using aI
     exact A1 hR hd ho h1 h2 fh s1 aJ s3 hf hr hi (by rw[←hv]) (by rw[←hv]) (by rw[←hv])
    | false=>
     simp only[hf,cond_false] at hv
     cases J1:Nat.beq (aB ((ct.drop off).take bK.length)) (aB ct)
     ·simp [J1] at hv
     simp only[J1,cond_true,M.ae,Option.bind_eq_some_iff] at hv
     obtain⟨r,hr,hv⟩:=hv
     cases hm:cX (id::bm r.2)
     ·simp [hm] at hv
     simp only[hm,cond_true,M.aa,Option.some.injEq] at hv
     have hi:i<rows.length∧Cp hl i=true:=by rw[←hv] at aI;simpa using aI
     exact A0 hR hd ho h1 h2 fh s1 aJ s3 (Nat.eq_of_beq_eq_true J1) hr hm hi.1 hi.2 (by rw[←hv]) (by rw[←hv]) (by rw[←hv])
   ·exact plain hv
  ·exact plain hv
 ·rename_i x ho
  simp only[M.ae,Option.bind_eq_some_iff] at hv
  obtain⟨s,h1,hv⟩:=hv
  exact mh hR hd ho h1 hv
 ·rename_i op t x y t' ho
  simp only[M.ae,Option.bind_eq_some_iff] at hv
  obtain⟨sx,h1,sy,h2,hv⟩:=hv
  exact DI hR hd ho h1 h2 hv aI
 ·rename_i op t x ho
  simp only[M.ae,Option.bind_eq_some_iff] at hv
  obtain⟨sx,h1,hv⟩:=hv
  exact Fj hR hd ho h1 hv
 ·rename_i s t x ho
  simp only[M.ae,Option.bind_eq_some_iff] at hv
  obtain⟨sx,h1,hv⟩:=hv
  exact CM hR hd bL ho h1 hv
 ·rename_i t l c ho
  simp only[M.ae,Option.bind_eq_some_iff] at hv
  obtain⟨sl,h1,sc,h2,hv⟩:=hv
  cases eo:mq Γ o.dst with
  | true=>
   simp only[eo,cond_true] at hv
   unfold GF at hv
   split at hv
   ·rename_i et n m d hu aK
    split at hv
    ·rename_i ct ts i Bn Fv hi
     cases hb:Nat.beq i.size ct.length && Nat.blt 0 ct.length
     ·simp [hb] at hv
     simp only[hb,cond_true,M.ae,Option.bind_eq_some_iff] at hv
     obtain⟨z,hz,r,hr,hv⟩:=hv
     cases B5:(bm r.2).isEmpty
     ·simp [B5] at hv
     simp only[B5,cond_true,M.aa,Option.some.injEq] at hv
     simp only[Bool.and_eq_true] at hb
     exact BQ hR aK (hd d aK) (bL (by rw[←hv];simp) d aK) ho h1 h2 hu hi (Nat.eq_of_beq_eq_true hb.1) hz hr (by simpa using B5) hv.symm aI
    ·simp at hv
   ·simp at hv
  | false=>
  simp only[eo,cond_false] at hv
  unfold GG at hv
  split at hv
  ·rename_i et n m d hu aK
   split at hv
   ·rename_i ct i Bn hi
    cases hb:Nat.beq i.size ct.length && Nat.blt 0 ct.length
    ·simp [hb] at hv
    simp only[hb,cond_true,M.ae,Option.bind_eq_some_iff,M.aa,Option.some.injEq] at hv
    obtain⟨z,hz,r,hr,hv⟩:=hv
    simp only[Bool.and_eq_true] at hb
    exact CP hR aK (hd d aK) (bL (by rw[←hv];simp) d aK) ho h1 h2 hu hi (Nat.eq_of_beq_eq_true hb.1) hz hr hv.symm aI
   ·simp at hv
  ·simp at hv
 ·rename_i t x lo hi mx ho
  split at hv
  ·simp only[M.ae,Option.bind_eq_some_iff] at hv
   obtain⟨sx,h1,sl,h2,sh,h3,hv⟩:=hv
   cases eo:mq Γ o.dst
   ·simp only[eo,cond_false] at hv
    exact BR hR hd ho h1 h2 h3 hv aI
   ·simp only[eo,cond_true] at hv
    exact AZ hR hd ho h1 h2 h3 hv aI
  ·simp at hv
 ·rename_i t x f ho
  split at hv
  ·rename_i fs hu
   split at hv
   ·rename_i fd hf
    cases hz:aX P fd.type 0
    ·simp only[hz,cond_false] at hv
     split at hv
     ·simp at hv
     ·rename_i i hi
      simp only[M.ae,Option.bind_eq_some_iff] at hv
      obtain⟨s,h1,hv⟩:=hv
      exact k8 hR hd ho hu hf hz hi h1 hv
    ·simp [hz] at hv
   ·simp at hv
  ·simp at hv
 ·rename_i t x i ho
  simp only[M.ae,Option.bind_eq_some_iff] at hv
  obtain⟨sx,h1,si,h2,hv⟩:=hv
  exact kr hR hd ho h1 h2 hv aI
 ·rename_i t x i ho
  simp only[M.ae,Option.bind_eq_some_iff] at hv
  obtain⟨sx,h1,si,h2,hv⟩:=hv
  exact BO hR hd ho h1 h2 hv aI
 ·rename_i x i ho
  simp only[M.ae,Option.bind_eq_some_iff] at hv
  obtain⟨sx,h1,hv⟩:=hv
  split at hv
  ·rename_i vs
   split at hv
   ·rename_i v Mt
    simp only[M.aa,Option.some.injEq] at hv
    exact mI hR hd ho h1 Mt hv.symm
   ·simp at hv
  ·simp at hv
 ·rename_i c ho
  split at hv
  ·rename_i g hg
   simp only[M.ae,Option.bind_eq_some_iff] at hv
   obtain⟨l,hl,hv⟩:=hv
   cases ju:FZ Γ g with
   | none=>
    unfold ky at hv
    rw[ju] at hv
    simp at hv
   | some s=>
    cases eo:s.GP with
    | true=>
     unfold ky at hv
     rw[ju] at hv
     simp only[eo,cond_true] at hv
     simp at hv
    | false=>
    cases hp:s.pt with
    | some q=>
     unfold ky at hv
     rw[ju] at hv
     simp only[eo,cond_false,hp] at hv
     simp at hv
    | none=>
    cases hm:s.ms with
    | nil=>
     cases aK:o.dst with
     | none=>
      unfold ky at hv
      rw[ju,aK] at hv
      simp only[eo,cond_false,hp,hm] at hv
      simp at hv
     | some d=>
      rw[aK] at hv
      exact CL eF ju eo hp hm hR aK (hd d aK) (fun h=>bL h d aK) ho hg hl hv aI
    | cons m ms=>
     have hv':(Ao s o.dst l).val st.get st.obj=some e:=by
      unfold ky at hv
      rw[ju] at hv
      simp only[eo,cond_false,hp,hm] at hv
      exact hv
     refine BN eF ju eo hp (by rw[hm];simp) hR hd (fun d aK h=>bL h d aK) (us:=c.args.toList.map a.eval) (fun fn hf hb hn=> ?_) (fun β φ hc=>Ar hc _ l hl) hv' aI
     have ES:c.args.map a.eval=(c.args.toList.map a.eval).toArray:=by rw[←Array.toList_map,Array.toArray_toList]
     rw[←ES]
     exact BK ho hg hf hb hn
  ·rename_i hb
   split at hv
   ·rename_i x t hx ht
    simp only[M.ae,Option.bind_eq_some_iff] at hv
    obtain⟨s,h1,hv⟩:=hv
    exact CO hR hd ho hb (mj hx) (mj ht) h1 hv
   ·simp at hv
  ·rename_i hb
   split at hv
   ·rename_i x y hx
    simp only[M.ae,Option.bind_eq_some_iff] at hv
    obtain⟨s,h1,s2,h2,hv⟩:=hv
    exact jP (mx:=false) hR hd ho hb (bJ hx) h1 h2 hv
   ·simp at hv
  ·rename_i hb
   split at hv
   ·rename_i x y hx
    simp only[M.ae,Option.bind_eq_some_iff] at hv
    obtain⟨s,h1,s2,h2,hv⟩:=hv
    exact jP (mx:=true) hR hd ho hb (bJ hx) h1 h2 hv
   ·simp at hv
  ·rename_i hb
   split at hv
   ·rename_i s x t t' hx ht
    cases kg:Nat.beq t t'
    ·simp only[kg,cond_false,M.ae,Option.bind_eq_some_iff] at hv
     obtain⟨ss,h1,sx,h2,hv⟩:=hv
     exact mH hR hd bL ho hb (bJ hx) (bJ ht) h1 h2 hv aI
    simp only[kg,cond_true] at hv
    have kh:=Nat.eq_of_beq_eq_true kg
    subst kh
    simp only[M.ae,Option.bind_eq_some_iff] at hv
    obtain⟨ss,h1,sx,h2,hv⟩:=hv
    cases eo:mq Γ o.dst with
    | true=>
     simp only[eo,cond_true] at hv
     unfold CV at hv
     split at hv
     ·rename_i et d hu aK
      split at hv
      ·rename_i ct ts Bn Fv
       cases mD:aX P et ct.length && Nat.blt 0 ct.length
       ·simp [mD] at hv
       simp only[mD,cond_true,M.ae,Option.bind_eq_some_iff] at hv
       obtain⟨z,hz,hv⟩:=hv
       cases jA:Nat.beq z.length ct.length
       ·simp [jA] at hv
       simp only[jA,cond_true,M.ae,Option.bind_eq_some_iff] at hv
       obtain⟨p,KH,q,KI,hv⟩:=hv
       cases hn:cX (p.2++q.2)
       ·simp [hn] at hv
       simp only[hn,cond_true,M.aa,Option.some.injEq] at hv
       simp only[Bool.and_eq_true] at mD
       have ep:fb P et (p.1.length+q.1.length)=true:=by rw[←hv] at aI;exact aI
       exact mG hR aK (hd d aK) (bL (by rw[←hv];simp) d aK) ho hb (bJ hx) (bJ ht) h1 h2 hu mD.1 (Nat.le_of_ble_eq_true mD.2) hz (Nat.eq_of_beq_eq_true jA) KH KI hn ep (by rw[←hv]) (by rw[←hv]) (by rw[←hv])
      ·simp at hv
     ·simp at hv
    | false=>
    simp only[eo,cond_false] at hv
    unfold CW at hv
    split at hv
    ·rename_i et d hu aK
     split at hv
     ·rename_i ct Bn
      cases mD:aX P et ct.length && Nat.blt 0 ct.length
      ·simp [mD] at hv
      simp only[mD,cond_true,M.ae,Option.bind_eq_some_iff] at hv
      obtain⟨z,hz,hv⟩:=hv
      cases jA:Nat.beq z.length ct.length
      ·simp [jA] at hv
      simp only[jA,cond_true] at hv
      have FV:=Nat.eq_of_beq_eq_true jA
      simp only[Bool.and_eq_true] at mD
      have jw:0<ct.length:=Nat.le_of_ble_eq_true mD.2
      split at hv
      ·simp only[M.ae,Option.bind_eq_some_iff,M.aa,Option.some.injEq] at hv
       obtain⟨q,hq,hv⟩:=hv
       have ep:fb P et q.1.length=true:=by rw[←hv] at aI;exact aI
       exact ko hR aK (hd d aK) (bL (by rw[←hv];simp) d aK) ho hb (bJ hx) (bJ ht) h1 h2 hu mD.1 jw hz FV hq ep (by rw[←hv]) (by rw[←hv]) (by rw[←hv])
      ·rename_i id
       simp only[M.aS,Option.bind_eq_some_iff] at hv
       obtain⟨ob,aJ,hv⟩:=hv
       split at hv
       ·rename_i t' e' r u
        cases he:Nat.beq t' et && aF e' ct
        ·simp [he] at hv
        simp only[he,cond_true,M.ae,Option.bind_eq_some_iff] at hv
        obtain⟨q,hq,hv⟩:=hv
        cases hn:bO id q.2.1
        ·simp [hn] at hv
        simp only[hn,cond_true,M.aa,Option.some.injEq] at hv
        simp only[Bool.and_eq_true] at he
        have e1:=Nat.eq_of_beq_eq_true he.1
        have e2:=aM _ _ he.2
        subst e1 e2
        have ep:fb P t' (r.length+q.1.length)=true:=by rw[←hv] at aI;exact aI
        exact kp hR aK (hd d aK) (bL (by rw[←hv];simp) d aK) ho hb (bJ hx) (bJ ht) h1 h2 aJ hu mD.1 jw hz FV hq hn ep (by rw[←hv]) (by rw[←hv]) (by rw[←hv])
       ·simp at hv
      ·simp at hv
     ·simp at hv
    ·simp at hv
   ·simp at hv
  ·rename_i hb
   split at hv
   ·rename_i s x t t' hx ht
    simp only[M.ae,Option.bind_eq_some_iff] at hv
    obtain⟨ss,h1,sx,h2,hv⟩:=hv
    exact CN hR hd ho hb (bJ hx) (bJ ht) h1 h2 hv aI
   ·simp at hv
  ·simp at hv
 ·simp at hv
end Go.Proofs.YtoaflbnkiobhdaaGreat.Vm
namespace Go.Proofs.YtoaflbnkiobhdaaGreat.Vm
structure Tr (st HI:St):Prop where
 n:HI.n=st.n
 ok:st.ok=true
 get:∀i,i ∉ HI.ls→HI.get i=st.get i
 ls:∀i∈st.ls,i∈HI.ls
 obj:∀id o,st.obj id=some o→id ∉ HI.lm→HI.obj id=some o
 lm:∀i∈st.lm,i∈HI.lm
theorem Tr.refl {st:St} (h:st.ok=true):Tr st st:=⟨rfl,h,fun _ _=>rfl,fun _ h=>h,fun _ _ h _=>h,fun _ h=>h⟩
theorem Tr.trans {a b c:St} (h:Tr a b) (k:Tr b c):Tr a c:=
 ⟨k.n.trans h.n,h.ok,fun i hi=>(k.get i hi).trans (h.get i (fun h'=>hi (k.ls i h'))),fun i hi=>k.ls i (h.ls i hi),
  fun id o ho hi=>k.obj id o (h.obj id o ho (fun h'=>hi (k.lm id h'))) hi,fun i hi=>k.lm i (h.lm i hi)⟩
theorem El {ow:List (Nat×Option aj)} {h:Nat→Option aj} {j:Nat} (hj:j ∉ ow.map (·.1)):fo ow h j=h j:=by
 induction ow with
 | nil=>rfl
 | cons x l ih=>
  obtain⟨i,ob⟩:=x
  simp only[List.map_cons,List.mem_cons,not_or] at hj
  simp only[fo,az,hj.1,if_false]
  exact ih hj.2
theorem BW {st:St} {d:Option Nat} {e:cF} (aI:(st.apply d e).ok=true):Tr st (st.apply d e):=by
 have Hn:st.ok=true:=by
  simp only[St.apply,f0] at aI
  exact aI.1.1
 refine⟨rfl,Hn,fun i hi=> ?_,fun i hi=> ?_,fun id o ho hi=> ?_,fun i hi=> ?_⟩
 ·cases d with
  | none=>rfl
  | some d=>
   have dI:i≠d:=fun h=>hi (by simp [St.apply,h])
   rw[apply_get]
   simp [az,dI]
 ·cases d<;>simp [St.apply,hi]
 ·rw[eQ]
  simp only[St.apply,List.mem_append,not_or] at hi
  rw[El hi.2.1]
  cases js:e.cw with
  | none=>exact ho
  | some x=>
   obtain⟨k,off,bK⟩:=x
   simp only[js,List.mem_singleton] at hi
   rw[←ho]
   simp only[fc]
   cases st.obj k with
   | none=>rfl
   | some b=>cases b<;>simp [az,hi.1]
 ·simp only[St.apply,List.mem_append]
  exact .inr (.inr hi)
theorem bb {st:St} :st.fail.ok=false:=rfl
theorem Dj {P:Program} {Γ:Ctx} {st:St} {o:Oper} (aI:(st.cy P Γ o).ok=true):Tr st (st.cy P Γ o):=by
 unfold St.cy at aI ⊢
 split
 ·rename_i e r hr
  simp only[hr] at aI
  cases hf:jk o.dst e st
  ·simp [hf,bb] at aI
  ·simp only[hf,cond_true] at aI ⊢
   exact BW aI
 ·rename_i hr
  simp [hr,bb] at aI
theorem lU (st:St) (s:Nat) (b:Bool):(st.fB s b).get=az st.get s (.kb b):=by
 funext i
 show iV ((s,.kb b)::st.sl) i=_
 simp only[iV,az,St.get]
 cases hk:Nat.beq s i
 ·have e2:=Nat.ne_of_beq_eq_false hk
  rw[if_neg (fun h=>e2 h.symm)]
  rfl
 ·simp [(Nat.eq_of_beq_eq_true hk).symm]
theorem jS {st:St} {s:Nat} {b:Bool} (aI:st.ok=true):Tr st (st.fB s b):=by
 refine⟨rfl,aI,fun i hi=> ?_,fun i hi=>by simp [St.fB,hi],fun _ _ h _=>h,fun _ h=>h⟩
 rw[lU]
 have:i≠s:=fun h=>hi (by simp [St.fB,h])
 simp [az,this]
theorem fR {i:Nat} {l:List Nat} :gZ i l=true↔i∈l:=by
 induction l with
 | nil=>simp [gZ]
 | cons k l ih=>
  simp only[gZ,Bool.or_eq_true,List.mem_cons,ih]
  constructor
  ·rintro (h | h)
   ·exact .inl (Nat.eq_of_beq_eq_true h).symm
   ·exact .inr h
  ·rintro (rfl | h)
   ·exact .inl (Nat.beq_refl i)
   ·exact .inr h
theorem Aa {i:Nat} {l:List Nat} :i∈dedup l↔i∈l:=by
 induction l with
 | nil=>simp [dedup]
 | cons k l ih=>
  simp only[dedup]
  cases hm:gZ k l
  ·simp [ih]
  ·simp only[cond_true,List.mem_cons,ih]
   constructor
   ·exact .inr
   ·rintro (rfl | h)
    ·exact fR.1 hm
    ·exact h
theorem gY {g:Bool} {f h:Nat→SV} {l:List (Nat×SV)} :∀(r:List Nat) (i:Nat),iV (gj g f h r l) i=if i∈r then eN g (f i) (h i) else iV l i
 | [],i=>by simp [gj]
 | k::r,i=>by
  simp only[gj,iV]
  cases hk:Nat.beq k i
  ·have e2:=Nat.ne_of_beq_eq_false hk
   simp only[cond_false,gY r i,List.mem_cons]
   by_cases hi:i∈r
   ·simp [hi]
   ·rw[if_neg hi,if_neg (fun h=>h.elim (fun h=>e2 h.symm) hi)]
  ·have e1:=Nat.eq_of_beq_eq_true hk
   subst e1
   simp
theorem g_ {hp:List (Nat×aj)} :∀ {l:List Nat} {i:Nat},i∈cD hp l↔i∈l∧∃o,dw hp i=some o
 | [],i=>by simp [cD]
 | k::l,i=>by
  simp only[cD]
  cases hk:dw hp k with
  | none=>
   simp only[g_ (l:=l),List.mem_cons]
   constructor
   ·rintro ⟨h1,h2⟩
    exact⟨.inr h1,h2⟩
   ·rintro ⟨rfl | h1,h2⟩
    ·rw[hk] at h2;obtain⟨o,h2⟩:=h2;cases h2
    ·exact⟨h1,h2⟩
  | some o=>
   simp only[List.mem_cons,g_ (l:=l)]
   constructor
   ·rintro (rfl | ⟨h1,h2⟩)
    ·exact⟨.inl rfl,o,hk⟩
    ·exact⟨.inr h1,h2⟩
   ·rintro ⟨rfl | h1,h2⟩
    ·exact .inl rfl
    ·exact .inr ⟨h1,h2⟩
theorem lJ {g:Bool} {f k h:Nat→Option aj} :∀(l:List Nat) (i:Nat),fo (jC g f k l) h i=if i∈l then lZ g (f i) (k i) else h i
 | [],i=>by simp [jC,fo]
 | j::l,i=>by
  simp only[jC,fo,az,List.mem_cons]
  by_cases hi:i=j
  ·subst hi;simp
  ·simp only[hi,if_false,false_or]
   exact lJ l i
theorem Ab (pre:St) (g:Bool) (a b:St) (i:Nat):(merge pre g a b).obj i=if i∈cD pre.hp (dedup (a.lm++b.lm)) then lZ g (a.obj i) (b.obj i) else pre.obj i:=by
 show dw (km _ pre.hp) i=_
 rw[gX,lJ]
 rfl
theorem BZ {pre a b:St} {g:Bool} (hp:pre.ok=true) (JM:(merge pre g a b).ok=true):Tr pre (merge pre g a b):=by
 refine⟨rfl,hp,fun i hi=> ?_,fun i hi=>List.mem_append_right _ hi,fun i o h hi=> ?_,fun i h=>List.mem_append_right _ h⟩
 ·have hi:i ∉ dedup (a.ls++b.ls)∧i ∉ pre.ls:=by simpa only[merge,List.mem_append,not_or] using hi
  show iV (gj g a.get b.get (dedup (a.ls++b.ls)) pre.sl) i=iV pre.sl i
  rw[gY,if_neg hi.1]
 ·have hi:i ∉ cD pre.hp (dedup (a.lm++b.lm)):=fun h'=>hi (List.mem_append_left _ h')
  rw[Ab,if_neg hi]
  exact h
theorem Core.sub {w0:World} {S:Own} {f f':Nat→SV} {h h':Nat→Option aj} {β:Env} {φ:Nat→List Nat} {tm:Array Value} {w:World} (hc:Core w0 S f h β φ tm w)
  (hh:∀j o,h' j=some o→h j=some o∨∃t cs Bf,o= .box t Bf∧h j=some (.box t cs)∧∀vs,af w (Av h' β) β cs vs→af w (Av h' β) β Bf vs)
  (hf:∀i v,ak w (Av h' β) β (f i) v→ak w (Av h' β) β (f' i) v):Core w0 S f' h' β φ tm w:=by
 have EL:∀j o,h' j=some o→∃o',h j=some o'∧al β j o=al β j o':=by
  intro j o ho
  rcases hh j o ho with h1 | ⟨t,cs,Bf,rfl,h1,_⟩
  ·exact⟨o,h1,rfl⟩
  ·exact⟨_,h1,rfl⟩
 have cN:∀b,Av h' β b→Av h β b:=fun b hb=>hb.imp (fun ⟨j,o,hj,hb⟩=>by
  obtain⟨o',h1,h2⟩:=EL j o hj
  exact⟨j,o',h1,h2 ▸ hb⟩) id
 have hm:=hc.step (h':=h') (β':=β) (φ':=φ) (w':=w) (fun _=>False) (Nat.le_refl _) (fun _ _ _=>rfl) (fun b hb=> .inl (cN b hb)) (fun _ _ _ h=>h) (fun _ _=>⟨rfl,rfl⟩)
  (fun id o ho=>by
   rcases hh id o ho with h1 | ⟨t,cs,Bf,rfl,h1,h2⟩
   ·exact .inl ⟨fun h=>h,h1,rfl,fun _ _ h=>h,fun _ _=>rfl⟩
   ·refine .inr ⟨?_,hc.fresh id _ h1⟩
    have h3:=(hc.ay id _ h1).mono (w':=w) (av':=Av h' β) (β':=β) (Nat.le_refl _) (fun _ _ _=>rfl) (fun b hb=> .inl (cN b hb)) (fun _ _=>⟨rfl,rfl⟩) (fun _ _=>rfl) rfl
    obtain⟨vs,e1,e2,e3,e4⟩:=h3
    exact⟨vs,e1,h2 vs e2,e3,e4⟩)
  (fun i j o p cI hi hj b hb=>by
   obtain⟨o',h1,_⟩:=EL i o hi
   obtain⟨p',h2,_⟩:=EL j p hj
   exact hc.sep i j o' p' cI h1 h2 b hb)
 exact⟨fun i=>hf i _ (hm.bY i),hm.ay,hm.fresh,hm.sep,hm.gv,hm.bars⟩
theorem Dy {w:World} {av:Nat→Prop} {β:Env} {g:Bool} {x y:Option aj} {o:aj} (h:lZ g x y=some o):
  (bif g then x else y)=some o∨∃t cs Bf,o= .box t Bf∧(bif g then x else y)=some (.box t cs)∧∀vs,af w av β cs vs→af w av β Bf vs:=by
 unfold lZ at h
 split at h
 ·rename_i t cs t' Bf
  cases hc:Nat.beq t t' && Nat.beq cs.length Bf.length
  ·simp [hc] at h
  ·simp only[hc,cond_true,Option.some.injEq] at h
   simp only[Bool.and_eq_true] at hc
   have ht:=Nat.eq_of_beq_eq_true hc.1
   have hl:=Nat.eq_of_beq_eq_true hc.2
   subst ht h
   refine .inr ⟨t,bif g then cs else Bf,_,rfl,by cases g<;>rfl,fun vs hv=>af.merge g cs Bf vs hl hv⟩
 ·rename_i t e r fz u t' e' r' Jo u'
  cases hc:Nat.beq t t' && aF e e' && (fz==Jo) && (u==u')
  ·simp [hc] at h
  ·simp only[hc,cond_true,Option.some.injEq] at h
   simp only[Bool.and_eq_true] at hc
   have ht:=Nat.eq_of_beq_eq_true hc.1.1.1
   have he:=aM _ _ hc.1.1.2
   have hf:fz=Jo:=by simpa using hc.1.2
   have hu:u=u':=by simpa using hc.2
   subst ht he hf hu h
   refine .inl ?_
   cases g<;>rfl
 ·cases h
theorem fT {w0:World} {S:Own} {pre yes no:St} {g:Bool} {a:Act} {w:World} (hy:g=true→Tr pre.reset yes∧Rel w0 S yes a w) (hn:g=false→Tr pre.reset no∧Rel w0 S no a w)
  (JM:(merge pre g yes no).ok=true):Rel w0 S (merge pre g yes no) a w:=by
 have key:∀r:St,Tr pre.reset r→Rel w0 S r a w→(∀i∈r.ls,i∈yes.ls++no.ls)→(∀i∈r.lm,i∈yes.lm++no.lm)→(∀i v av β,ak w av β (r.get i) v→ak w av β (eN g (yes.get i) (no.get i)) v)→
   (∀i,(bif g then yes.obj i else no.obj i)=r.obj i)→Rel w0 S (merge pre g yes no) a w:=by
  intro r ht hr Mf Ft Mh AG
  obtain⟨β,φ,hc⟩:=hr.core
  refine⟨hr.size.trans (congrArg (· % 1099511627776) ht.n),fun x hx=>by have h1:=hr.fx x hx;rw[ht.n] at h1;exact h1,hr.defers,hr.kept,β,φ, ?_⟩
  refine hc.sub (fun j o ho=> ?_) (fun i v hv=> ?_)
  ·rw[Ab] at ho
   split at ho
   ·have:=Dy (w:=w) (av:=Av (merge pre g yes no).obj β) (β:=β) ho
    rw[AG j] at this
    exact this
   ·rename_i hj
    refine .inl (ht.obj j o ho (fun h=>hj ?_))
    exact g_.2 ⟨Aa.2 (Ft j h),o,ho⟩
  ·show ak w _ β (iV (gj g yes.get no.get (dedup (yes.ls++no.ls)) pre.sl) i) v
   rw[gY]
   split
   ·exact Mh i v _ β hv
   ·rename_i hi
    have:r.get i=pre.get i:=ht.get i (fun h=>hi (Aa.2 (Mf i h)))
    rw[this] at hv
    exact hv
 cases g with
 | true=>
  obtain⟨ht,hr⟩:=hy rfl
  exact key yes ht hr (fun i hi=>List.mem_append_left _ hi) (fun i hi=>List.mem_append_left _ hi) (fun i v av β hv=>ak.merge true _ _ _ hv) (fun _=>rfl)
 | false=>
  obtain⟨ht,hr⟩:=hn rfl
  exact key no ht hr (fun i hi=>List.mem_append_right _ hi) (fun i hi=>List.mem_append_right _ hi) (fun i v av β hv=>ak.merge false _ _ _ hv) (fun _=>rfl)
theorem Rel.reset {w0:World} {S:Own} {st:St} {a:Act} {w:World} (h:Rel w0 S st a w):Rel w0 S st.reset a w:=⟨h.size,h.fx,h.defers,h.kept,h.core⟩
theorem Rel.fB {w0:World} {S:Own} {st:St} {a:Act} {w:World} (h:Rel w0 S st a w) {s:Nat} {b:Bool} (hs:a.tmps.getD s undef= .bool b):Rel w0 S (st.fB s b) a w:=by
 obtain⟨β,φ,hc⟩:=h.core
 refine⟨h.size,h.fx,h.defers,h.kept,β,φ, ?_⟩
 rw[lU]
 exact⟨fun i=>by
  by_cases hi:i=s
  ·subst hi
   simp only[az,if_true,ak]
   exact hs
  ·have:=hc.bY i
   show ak w (Av st.obj β) β _ _
   simpa only[az,hi,if_false] using this,hc.ay,hc.fresh,hc.sep,hc.gv,hc.bars⟩
theorem Rel.Af {w0:World} {S:Own} {st:St} {a:Act} {w:World} (h:Rel w0 S st a w) {s:Nat} {g:Bool} (hs:st.get s= .bool g):a.tmps.getD s undef= .bool g:=by
 obtain⟨β,φ,hc⟩:=h.core
 have:=hc.bY s
 rw[hs] at this
 simpa only[ak] using this
theorem bd {P:Program} {Γ:Ctx} {ops:Array Oper} {gs:List Nat} {j0:List cq→Bool} :∀(rest:List Oper) (i:Nat) (acc:List cq) (st:St),(a8 P Γ ops gs j0 rest i acc st).ok=true→
  Tr st (a8 P Γ ops gs j0 rest i acc st)
 | [],i,acc,st,h=>by
  simp only[a8] at h ⊢
  simp only[f0] at h
  exact⟨rfl,h.1,fun _ _=>rfl,fun _ h=>h,fun _ _ h _=>h,fun _ h=>h⟩
 | o::rest,i,acc,st,h=>by
  rw[a8] at h ⊢
  split
  ·rename_i hw;simp [hw,bb] at h
  ·rename_i hw
   simp only[hw] at h
   have h1:=bd rest _ _ _ h
   exact (BW h1.ok).trans h1
  ·rename_i hw
   simp only[hw] at h
   have plain:(a8 P Γ ops gs j0 rest (i+1) (acc++[bF P Γ ops i st o]) (st.cy P Γ o)).ok=true→Tr st (a8 P Γ ops gs j0 rest (i+1) (acc++[bF P Γ ops i st o]) (st.cy P Γ o)):=by
    intro h'
    have h1:=bd rest _ _ _ h'
    exact (Dj h1.ok).trans h1
   split
   ·rename_i hd
    simp only[hd] at h
    exact plain h
   ·rename_i s hd
    simp only[hd] at h
    cases hm:gZ s gs
    ·simp only[hm,cond_false] at h ⊢
     exact plain h
    ·simp only[hm,cond_true] at h ⊢
     split
     ·rename_i g hg
      simp only[hg] at h
      have Dw:(st.cy P Γ o).ok=true:=by
       have h':=h
       simp only[merge,Fc] at h'
       cases g with
       | true=>simp only[cond_true] at h';exact (bd rest _ _ _ h').ok
       | false=>simp only[cond_false] at h';exact (bd rest _ _ _ h').ok
      exact (Dj Dw).trans (BZ Dw h)
     ·rename_i hg
      have h':(a8 P Γ ops gs j0 rest (i+1) (acc++[bF P Γ ops i st o]) (st.cy P Γ o)).ok=true:=by
       revert h
       split
       ·rename_i g HO;exact absurd HO (hg g)
       ·exact id
      exact plain h'
end Go.Proofs.YtoaflbnkiobhdaaGreat.Vm
set_option linter.unusedVariables false
set_option linter.unusedSimpArgs false
namespace Go.Proofs.YtoaflbnkiobhdaaGreat.Vm
theorem iZ {ds l:List Nat} (h:l5 ds l=true):∀i∈l,i / 64 ∉ ds:=by
 induction l with
 | nil=>simp
 | cons k l ih=>
  simp only[l5,Bool.and_eq_true,Bool.not_eq_true'] at h
  intro i hi
  rcases List.mem_cons.1 hi with rfl | hi
  ·intro hm
   rw[fR.2 hm] at h
   simp at h
  ·exact ih h.2 i hi
theorem F0 {l:List (Nat×SV)} {i:Nat} :iV l i= .ff∨∃x∈l,iV l i=x.2:=by
 induction l with
 | nil=>exact .inl rfl
 | cons y l ih=>
  obtain⟨k,s⟩:=y
  simp only[iV]
  cases Nat.beq k i
  ·rcases ih with h | ⟨x,hx,h⟩
   ·exact .inl h
   ·exact .inr ⟨x,List.mem_cons_of_mem _ hx,h⟩
  ·exact .inr ⟨_,List.mem_cons_self ..,rfl⟩
theorem C_ {l:List (Nat×aj)} {i:Nat} {ob:aj} (h:dw l i=some ob):(i,ob)∈l:=by
 induction l with
 | nil=>simp [dw] at h
 | cons y l ih=>
  obtain⟨k,s⟩:=y
  simp only[dw] at h
  cases hk:Nat.beq k i
  ·simp only[hk,cond_false] at h
   exact List.mem_cons_of_mem _ (ih h)
  ·simp only[hk,cond_true,Option.some.injEq] at h
   rw[Nat.eq_of_beq_eq_true hk,h]
   exact List.mem_cons_self ..
theorem Bl {ds:List Nat} {st:St} (h:ek ds st=true):∀d∈ds,bu st d:=by
 intro d hd
 simp only[ek,Bool.and_eq_true,List.all_eq_true] at h
 constructor
 ·intro i j hj
  rcases F0 (l:=st.sl) (i:=i) with h0 | ⟨x,hx,h0⟩
  ·have:st.get i= .ff:=h0
   rw[this] at hj
   simp [bT] at hj
  ·have:st.get i=x.2:=h0
   rw[this] at hj
   exact fun e=>iZ (h.1 x hx) j hj (e ▸ hd)
 ·intro j ob hj
  have hm:=h.2 _ (C_ hj)
  refine⟨fun e=>iZ hm j (List.mem_cons_self ..) (e ▸ hd),fun k hk e=>iZ hm k (List.mem_cons_of_mem _ hk) (e ▸ hd)⟩
section
variable {P:Program} {Γ:Ctx} {w0:World} {S:Own} {ops:Array Oper} {gs:List Nat}
theorem lF {st:St} {o:Oper} (h:(st.cy P Γ o).ok=true):∃e s r,(evalOp P Γ o).run st.get st.obj=some (e,s,r)∧jk o.dst e st=true∧st.cy P Γ o=st.apply o.dst e:=by
 unfold St.cy at h ⊢
 split at h
 ·rename_i e r hr
  obtain⟨s,r⟩:=r
  cases hf:jk o.dst e st
  ·simp [hf,bb] at h
  ·exact⟨e,s,r,hr,hf,by simp [hr,hf]⟩
 ·simp [bb] at h
theorem mQ (eF:bD P Γ) {st:St} {o:Oper} {a:Act} {w:World} (hR:Rel w0 S st a w) (h:(st.cy P Γ o).ok=true) (Q:Exit→Act→World→Prop):
  o.wp P a w (fun a' w'=>∃v,a'=a.put o.dst v∧Rel w0 S (st.cy P Γ o) a' w') Q:=by
 obtain⟨e,s,r,hr,hf,he⟩:=lF h
 rw[he] at h ⊢
 simp only[St.apply,f0] at h
 refine BG eF hR (M.ea _ hr) h.1.2 (fun d hd=> ?_) (fun how d hd=> ?_) Q
 ·have:=h.2
  rw[hd] at this
  exact lf this
 ·unfold jk at hf
  rw[hd] at hf
  split at hf
  ·rename_i d' _ Ii
   injection Ii with Ii
   subst Ii
   exact Bl hf d (List.mem_singleton.2 rfl)
  ·rename_i Bt
   cases hw:e.ow with
   | nil=>exact absurd hw how
   | cons x l=>exact (Bt x l d hw rfl).elim
theorem kv {st:St} {o:Oper} {a:Act} {w:World} {b:Bool} (hR:Rel w0 S st a w) (h:fg ops st o=some b):Region.wanted o (yielded ops a.tmps)=b:=by
 obtain⟨β,φ,hc⟩:=hR.core
 unfold fg at h
 unfold Region.wanted
 split at h
 ·rename_i hg
  simp only[hg]
  simpa using h
 ·rename_i j want hg
  simp only[hg]
  split at h
  ·cases h
  ·rename_i s hs
   have ke:=hc.bY s
   split at h
   ·rename_i b' ax
    rw[ax] at ke
    simp only[ak] at ke
    have:a.tmps[s]? =some (.bool b'):=by
     rw[Array.getD_eq_getD_getElem?] at ke
     cases hq:a.tmps[s]? with
     | none=>rw[hq] at ke;simp [undef] at ke
     | some v=>rw[hq] at ke;simpa using ke
    simp only[yielded,hs,Option.bind_some,this]
    have h:=Option.some.inj h
    rw[←h]
    rfl
   ·rename_i ax
    rw[ax] at ke
    simp only[ak] at ke
    have:∀c,a.tmps[s]? ≠some (.bool c):=by
     intro c hq
     rw[Array.getD_eq_getD_getElem?,hq] at ke
     simp [undef] at ke
    have hy:yielded ops a.tmps j=none:=by
     unfold yielded
     rw[hs]
     simp only[Option.bind_some]
    rw[hy]
    have h:=Option.some.inj h
    rw[←h]
    rfl
   ·cases h
theorem Fi {st:St} {o:Oper} {a:Act} {w:World} (hR:Rel w0 S st a w) (h:(st.skip o.dst).ok=true):Rel w0 S (st.skip o.dst) (a.put o.dst undef) w:=by
 obtain⟨β,φ,hc⟩:=hR.core
 refine iu hR (fun d hd=> ?_) hR.kept ⟨β,φ,hc,by simp [ak]⟩
 simp only[St.skip,St.apply,f0] at h
 have:=h.2
 rw[hd] at this
 exact lf this
theorem Rel.GH {st:St} {a:Act} {w:World} (hR:Rel w0 S st a w) (b:Bool):Rel w0 S {st with ok:=b} a w:=⟨hR.size,hR.fx,hR.defers,hR.kept,hR.core⟩
theorem cW {pre a b:St} {g:Bool} (h:(merge pre g a b).ok=true):(g=true→a.ok=true)∧(g=false→b.ok=true):=by
 simp only[merge,Fc] at h
 cases g
 ·exact⟨by simp,fun _=>h⟩
 ·exact⟨fun _=>h,by simp⟩
theorem eh (eF:bD P Γ) {j0:List cq→Bool} {Q:Exit→Act→World→Prop} :∀(rest:List Oper) (i:Nat) (acc:List cq) (st:St) (a:Act) (w:World),Rel w0 S st a w→
  (a8 P Γ ops gs j0 rest i acc st).ok=true→(∀a' w',Rel w0 S (a8 P Γ ops gs j0 rest i acc st) a' w'→Q .normal a' w')→wpList P ops Q rest a w
 | [],i,acc,st,a,w,hR,aI,hQ=>by
  simp only[a8] at hQ
  exact hQ a w (hR.GH _)
 | o::rest,i,acc,st,a,w,hR,aI,hQ=>by
  rw[a8] at aI hQ
  cases hw:fg ops st o with
  | none=>simp [hw,bb] at aI
  | some b=>
   simp only[hw] at aI hQ
   have m0:=kv hR hw
   unfold wpList
   cases b with
   | false=>
    rw[if_neg (by rw[m0];simp)]
    simp only at aI hQ
    exact eh eF rest _ _ _ _ w (Fi hR (bd rest _ _ _ aI).ok) aI hQ
   | true=>
    rw[if_pos m0]
    simp only at aI hQ
    refine .inl ?_
    have plain:(a8 P Γ ops gs j0 rest (i+1) (acc++[bF P Γ ops i st o]) (st.cy P Γ o)).ok=true→
      (∀a' w',Rel w0 S (a8 P Γ ops gs j0 rest (i+1) (acc++[bF P Γ ops i st o]) (st.cy P Γ o)) a' w'→Q .normal a' w')→o.wp P a w (wpList P ops Q rest) Q:=by
     intro h1 h2
     have hd:=(bd rest _ _ _ h1).ok
     refine Oper.wp_mono ?_ (mQ eF hR hd Q)
     rintro a' w' ⟨v,rfl,eD⟩
     exact eh eF rest _ _ _ _ w' eD h1 h2
    split at aI
    ·rename_i hd
     simp only[hd] at hQ
     exact plain aI hQ
    ·rename_i s hd
     simp only[hd] at hQ
     cases hm:gZ s gs
     ·simp only[hm,cond_false] at aI hQ
      exact plain aI hQ
     ·simp only[hm,cond_true] at aI hQ
      split at aI
      ·rename_i g hg
       simp only[hg] at hQ
       have lk:=cW aI
       have Dw:(st.cy P Γ o).ok=true:=by
        cases g with
        | true=>exact (bd rest _ _ _ (lk.1 rfl)).ok
        | false=>exact (bd rest _ _ _ (lk.2 rfl)).ok
       refine Oper.wp_mono ?_ (mQ eF hR Dw Q)
       rintro a' w' ⟨v,rfl,eD⟩
       have dg:=eD.Af hg
       cases g with
       | true=>
        have hy:=lk.1 rfl
        refine eh eF rest (i+1) (acc++[bF P Γ ops i st o]) ((st.cy P Γ o).reset.fB s true) _ w' (eD.reset.fB dg) hy ?_
        intro JN K_ JT
        exact hQ JN K_ (fT (fun _=>⟨(jS (st:=(st.cy P Γ o).reset) Dw).trans (bd rest _ _ _ hy),JT⟩) (by simp) aI)
       | false=>
        have hn:=lk.2 rfl
        refine eh eF rest (i+1) (acc++[bF P Γ ops i st o]) ((st.cy P Γ o).reset.fB s false) _ w' (eD.reset.fB dg) hn ?_
        intro JN K_ JT
        exact hQ JN K_ (fT (by simp) (fun _=>⟨(jS (st:=(st.cy P Γ o).reset) Dw).trans (bd rest _ _ _ hn),JT⟩) aI)
      ·rename_i hg
       have LS:∀a' w',Rel w0 S (a8 P Γ ops gs j0 rest (i+1) (acc++[bF P Γ ops i st o]) (st.cy P Γ o)) a' w'→Q .normal a' w':=by
        revert hQ
        split
        ·rename_i g HO;exact absurd HO (hg g)
        ·exact id
       exact plain aI LS
theorem Aj {draw:Bool} {st:St} (h:(bV P Γ ops draw st).ok=true):Tr st (bV P Γ ops draw st):=by
 unfold bV at h ⊢
 cases draw
 ·simp only[cond_false] at h ⊢
  exact bd _ _ _ _ h
 ·simp only[cond_true] at h ⊢
  cases hf:ek (kV ops.toList) st && f_ ops.toList 0 && P.follows .mixedOrders
  ·simp [hf,bb] at h
  ·simp only[hf,cond_true] at h ⊢
   exact bd _ _ _ _ h
theorem CC (eF:bD P Γ) {st:St} {a:Act} {w:World} {id:Nat} {Q:Exit→Act→World→Prop} (hR:Rel w0 S st a w) (h:(bV P Γ ops false st).ok=true)
  (hQ:∀a' w',Rel w0 S (bV P Γ ops false st) a' w'→Q .normal a' w'):(Code.region id ops false).wp P Q a w:=by
 unfold bV at h hQ
 simp only[cond_false] at h hQ
 exact wp_region_list (eh eF _ _ _ _ a w hR h hQ)
end
end Go.Proofs.YtoaflbnkiobhdaaGreat.Vm
set_option linter.unusedVariables false
set_option linter.unusedSimpArgs false
namespace Go.Proofs.YtoaflbnkiobhdaaGreat.Vm
theorem M.kn {α:Type} {f f':Nat→SV} {h h':Nat→Option aj} :∀(m:M α) {a:α} {s o:List Nat},m.run f h=some (a,s,o)→(∀i∈s,f' i=f i)→(∀i∈o,h' i=h i)→m.run f' h'=some (a,s,o)
 | .pure a,_,_,_,e,_,_=>by simpa [M.run] using e
 | .fail,_,_,_,e,_,_=>by simp [M.run] at e
 | .slot i k,a,s,o,e,hs,ho=>by
  simp only[M.run] at e ⊢
  split at e
  ·rename_i b s' o' hk
   simp only[Option.some.injEq,Prod.mk.injEq] at e
   obtain⟨rfl,rfl,rfl⟩:=e
   rw[hs i (List.mem_cons_self ..),M.kn (k (f i)) hk (fun j hj=>hs j (List.mem_cons_of_mem _ hj)) ho]
  ·cases e
 | .obj i k,a,s,o,e,hs,ho=>by
  simp only[M.run] at e ⊢
  split at e
  ·rename_i x hx
   split at e
   ·rename_i b s' o' hk
    simp only[Option.some.injEq,Prod.mk.injEq] at e
    obtain⟨rfl,rfl,rfl⟩:=e
    rw[ho i (List.mem_cons_self ..),hx]
    simp only
    rw[M.kn (k x) hk hs (fun j hj=>ho j (List.mem_cons_of_mem _ hj))]
   ·cases e
  ·cases e
structure PS where
 i:Nat
 o:Oper
 run:Bool
 st:St
 e:cF
 log:cq
def PS.f (p:PS) (s:Nat) (v:SV):SV:=if p.o.dst=some s then p.e.sv else v
def F1:List (Nat×Option aj)→Nat→Option (Option aj)
 | [],_=>none
 | (i,x)::l,j=>if j=i then some x else F1 l j
def Ec (cw:Option (Nat×Nat×List SV)) (id:Nat) (v:Option aj):Option aj:=
 match cw with
 | some (i,off,bK)=>if id=i then (match v with | some (.box t cells)=>some (.box t (cE cells off bK)) | o=>o) else v
 | none=>v
def PS.h (p:PS) (id:Nat) (v:Option aj):Option aj:=
 match F1 p.e.ow id with
 | some x=>x
 | none=>Ec p.e.cw id v
theorem H2 (cw:Option (Nat×Nat×List SV)) (h:Nat→Option aj) (id:Nat):fc cw h id=Ec cw id (h id):=by
 cases cw with
 | none=>rfl
 | some x=>
  obtain⟨i,off,bK⟩:=x
  simp only[fc,Ec]
  by_cases hi:id=i
  ·subst hi
   rw[if_pos rfl]
   cases hh:h id with
   | none=>simp [hh]
   | some b=>cases b<;>simp [az,hh]
  ·rw[if_neg hi]
   cases h i with
   | none=>rfl
   | some b=>cases b<;>simp [az,hi]
theorem H3 (ow:List (Nat×Option aj)) (h:Nat→Option aj) (id:Nat):fo ow h id=match F1 ow id with | some x=>x | none=>h id:=by
 induction ow with
 | nil=>rfl
 | cons x l ih=>
  obtain⟨i,ob⟩:=x
  simp only[fo,az,F1]
  split
  ·rfl
  ·exact ih
theorem jd (st:St) (p:PS) (id:Nat):(st.apply p.o.dst p.e).obj id=p.h id (st.obj id):=by
 rw[eQ,H3]
 unfold PS.h
 rw[H2]
theorem ld (st:St) (p:PS) (s:Nat):(st.apply p.o.dst p.e).get s=p.f s (st.get s):=by
 unfold PS.f
 cases hd:p.o.dst with
 | none=>simp [gF]
 | some d=>
  rw[apply_get]
  simp only[az,Option.some.injEq]
  by_cases hs:s=d
  ·simp [hs]
  ·rw[if_neg hs,if_neg (fun h:d=s=>hs h.symm)]
inductive Path (P:Program) (Γ:Ctx) (ops:Array Oper) (gs:List Nat):List Oper→Nat→St→List PS→St→Prop where
 | nil (i:Nat) (st:St):Path P Γ ops gs [] i st [] st
 | skip (o:Oper) (rest:List Oper) (i:Nat) (st:St) (l:List PS) (fin:St) (hw:fg ops st o=some false) (aI:(st.skip o.dst).ok=true) (h:Path P Γ ops gs rest (i+1) (st.skip o.dst) l fin):
   Path P Γ ops gs (o::rest) i st (⟨i,o,false,st, {sv:= .undef},iy ops i o⟩::l) fin
 | op (o:Oper) (rest:List Oper) (i:Nat) (st:St) (l:List PS) (fin:St) (e:cF) (hw:fg ops st o=some true) (aI:(st.cy P Γ o).ok=true) (he:st.cy P Γ o=st.apply o.dst e)
   (hr:∃s r,(evalOp P Γ o).run st.get st.obj=some (e,s,r)) (h:Path P Γ ops gs rest (i+1) (st.cy P Γ o) l fin):
   Path P Γ ops gs (o::rest) i st (⟨i,o,true,st,e,bF P Γ ops i st o⟩::l) fin
 | JI (o:Oper) (rest:List Oper) (i:Nat) (st:St) (l:List PS) (fin:St) (e:cF) (s:Nat) (g:Bool) (hw:fg ops st o=some true) (aI:(st.cy P Γ o).ok=true) (he:st.cy P Γ o=st.apply o.dst e)
   (hr:∃s r,(evalOp P Γ o).run st.get st.obj=some (e,s,r)) (hd:o.dst=some s) (hg:e.sv= .bool g) (h:Path P Γ ops gs rest (i+1) ((st.cy P Γ o).reset.fB s g) l fin):
   Path P Γ ops gs (o::rest) i st (⟨i,o,true,st, {e with sv:= .kb g},bF P Γ ops i st o⟩::l) fin
section
variable {P:Program} {Γ:Ctx} {w0:World} {S:Own} {ops:Array Oper} {gs:List Nat}
theorem eK {j0:List cq→Bool} :∀(rest:List Oper) (i:Nat) (acc:List cq) (st:St),(a8 P Γ ops gs j0 rest i acc st).ok=true→
  ∃l fin,Path P Γ ops gs rest i st l fin∧fin.ok=true∧j0 (acc++l.map (·.log))=true∧∀(w0:World) (S:Own) (a:Act) (w:World),Rel w0 S fin a w→Rel w0 S (a8 P Γ ops gs j0 rest i acc st) a w
 | [],i,acc,st,aI=>by
  simp only[a8,f0] at aI ⊢
  exact⟨[],st,.nil i st,aI.1,by simpa using aI.2,fun w0 S a w h=>h.GH _⟩
 | o::rest,i,acc,st,aI=>by
  rw[a8] at aI ⊢
  cases hw:fg ops st o with
  | none=>simp [hw,bb] at aI
  | some b=>
   simp only[hw] at aI ⊢
   cases b with
   | false=>
    simp only at aI ⊢
    obtain⟨l,fin,h1,h2,h3,h4⟩:=eK rest _ _ _ aI
    exact⟨_,fin,.skip o rest i st l fin hw (bd rest _ _ _ aI).ok h1,h2,by simpa using h3,h4⟩
   | true=>
    simp only at aI ⊢
    have plain:(a8 P Γ ops gs j0 rest (i+1) (acc++[bF P Γ ops i st o]) (st.cy P Γ o)).ok=true→
      ∃l fin,Path P Γ ops gs (o::rest) i st l fin∧fin.ok=true∧j0 (acc++l.map (·.log))=true∧∀(w0:World) (S:Own) (a:Act) (w:World),Rel w0 S fin a w→
       Rel w0 S (a8 P Γ ops gs j0 rest (i+1) (acc++[bF P Γ ops i st o]) (st.cy P Γ o)) a w:=by
     intro h1
     have hd:=(bd rest _ _ _ h1).ok
     obtain⟨l,fin,g1,g2,g3,g4⟩:=eK rest _ _ _ h1
     obtain⟨e,s,r,hr,_,he⟩:=lF hd
     exact⟨_,fin,.op o rest i st l fin e hw hd he ⟨s,r,hr⟩ g1,g2,by simpa using g3,g4⟩
    split at aI
    ·rename_i hd
     exact plain aI
    ·rename_i s hd
     cases hm:gZ s gs
     ·simp only[hm,cond_false] at aI ⊢
      exact plain aI
     ·simp only[hm,cond_true] at aI ⊢
      split at aI
      ·rename_i g hg
       have lk:=cW aI
       have Jq:∀b:Bool,g=b→(a8 P Γ ops gs j0 rest (i+1) (acc++[bF P Γ ops i st o]) ((st.cy P Γ o).reset.fB s b)).ok=true:=by
        rintro b rfl
        cases g with
        | true=>exact lk.1 rfl
        | false=>exact lk.2 rfl
       have J2:=(bd rest _ _ _ (Jq g rfl)).ok
       have Js:(st.cy P Γ o).ok=true:=J2
       obtain⟨l,fin,g1,g2,g3,g4⟩:=eK rest (i+1) (acc++[bF P Γ ops i st o]) _ (Jq g rfl)
       obtain⟨e,s',r,hr,_,he⟩:=lF Js
       have eU:e.sv= .bool g:=by
        rw[he,hd,apply_get] at hg
        simpa [az] using hg
       refine⟨_,fin,.JI o rest i st l fin e s g hw Js he ⟨s',r,hr⟩ hd eU g1,g2,by simpa using g3,fun w0 S a w hR=> ?_⟩
       have eD:=g4 w0 S a w hR
       refine fT (fun FG=> ?_) (fun Ma=> ?_) aI
       ·subst FG
        exact⟨(jS (st:=(st.cy P Γ o).reset) Js).trans (bd rest _ _ _ (Jq true rfl)),eD⟩
       ·subst Ma
        exact⟨(jS (st:=(st.cy P Γ o).reset) Js).trans (bd rest _ _ _ (Jq false rfl)),eD⟩
      ·rename_i hg
       exact plain aI
def kB (L:Nat→Bool) (l:List PS) (s:Nat) (v:SV):SV:=l.foldl (fun v p=>if L p.i then p.f s v else v) v
def kC (L:Nat→Bool) (l:List PS) (id:Nat) (v:Option aj):Option aj:=l.foldl (fun v p=>if L p.i then p.h id v else v) v
def PS.tF (p:PS) (s:Nat):Prop:=p.o.dst=some s
def PS.tH (p:PS) (id:Nat):Prop:=id∈p.e.ow.map (·.1)∨∃off bK,p.e.cw=some (id,off,bK)
theorem PS.H0 {p:PS} {s:Nat} (h:¬p.tF s) (v:SV):p.f s v=v:=by unfold PS.f PS.tF at*;rw[if_neg h]
theorem E7 {ow:List (Nat×Option aj)} {id:Nat} (h:id ∉ ow.map (·.1)):F1 ow id=none:=by
 induction ow with
 | nil=>rfl
 | cons x l ih=>
  obtain⟨i,ob⟩:=x
  simp only[List.map_cons,List.mem_cons,not_or] at h
  simp only[F1]
  rw[if_neg h.1]
  exact ih h.2
theorem PS.H7 {p:PS} {id:Nat} (h:¬p.tH id) (v:Option aj):p.h id v=v:=by
 unfold PS.tH at h
 simp only[not_or] at h
 unfold PS.h
 rw[E7 h.1]
 simp only
 unfold Ec
 split
 ·rename_i i off bK js
  by_cases hi:id=i
  ·subst hi
   exact absurd ⟨off,bK,js⟩ h.2
  ·rw[if_neg hi]
 ·rfl
theorem eS {α:Type} (step:PS→α→α) {L:Nat→Bool} :∀(l:List PS) (v:α),(∀q∈l,L q.i=false)→l.foldl (fun v q=>if L q.i then step q v else v) v=v
 | [],v,_=>rfl
 | z::l,v,h=>by
  simp only[List.foldl_cons,h z (List.mem_cons_self ..),Bool.false_eq_true,if_false]
  exact eS step l v (fun q hq=>h q (List.mem_cons_of_mem _ hq))
section H4
variable {α:Type} (step:PS→α→α) (T:PS→Prop)
theorem fold_congr (dJ:∀p v,¬T p→step p v=v) {L L':Nat→Bool} :∀(l:List PS) (v:α),(∀p∈l,T p→L p.i=L' p.i)→
  l.foldl (fun v p=>if L p.i then step p v else v) v=l.foldl (fun v p=>if L' p.i then step p v else v) v
 | [],v,_=>rfl
 | p::l,v,h=>by
  simp only[List.foldl_cons]
  have:(if L p.i then step p v else v)=if L' p.i then step p v else v:=by
   by_cases ht:T p
   ·rw[h p (List.mem_cons_self ..) ht]
   ·rw[dJ p v ht]
    simp
  rw[this]
  exact fold_congr dJ l _ (fun q hq=>h q (List.mem_cons_of_mem _ hq))
theorem gL (dJ:∀p v,¬T p→step p v=v) {L:Nat→Bool} {q:PS} :∀(l:List PS) (v:α),q∈l→(l.map (·.i)).Nodup→L q.i=false→l.Pairwise (fun a b=>a.i<b.i)→(∀p∈l,q.i<p.i→T q→T p→L p.i=false)→
  l.foldl (fun v p=>if (L p.i || p.i==q.i) then step p v else v) v=step q (l.foldl (fun v p=>if L p.i then step p v else v) v)
 | [],v,hq,_,_,_,_=>by simp at hq
 | p::l,v,hq,hn,hL,hp,Bt=>by
  simp only[List.foldl_cons]
  simp only[List.map_cons,List.nodup_cons] at hn
  rw[List.pairwise_cons] at hp
  rcases List.mem_cons.1 hq with rfl | Lq
  ·simp only[hL,beq_self_eq_true,Bool.or_true,if_true,Bool.false_eq_true,if_false]
   have e1:l.foldl (fun v p=>if (L p.i || p.i==q.i) then step p v else v) (step q v)=l.foldl (fun v p=>if L p.i then step p v else v) (step q v):=by
    refine fold_congr step T dJ (L:=fun k=>L k || k==q.i) (L':=L) l _ (fun r hr _=> ?_)
    have:r.i≠q.i:=fun e=>hn.1 (e ▸ List.mem_map_of_mem hr)
    simp [this]
   rw[e1]
   by_cases ht:T q
   ·have e2:∀u,l.foldl (fun v p=>if L p.i then step p v else v) u=u:=by
     intro u
     have:=fold_congr step T dJ (L:=L) (L':=fun _=>false) l u (fun r hr Mq=>Bt r (List.mem_cons_of_mem _ hr) (hp.1 r hr) ht Mq)
     rw[this]
     exact eS step (L:=fun _=>false) l u (fun _ _=>rfl)
    rw[e2,e2]
   ·rw[dJ q v ht,dJ q _ ht]
  ·have cI:p.i≠q.i:=fun e=>hn.1 (e ▸ List.mem_map_of_mem Lq)
   have:(if (L p.i || p.i==q.i) then step p v else v)=if L p.i then step p v else v:=by simp [cI]
   rw[this]
   exact gL dJ l _ Lq hn.2 hL hp.2 (fun r hr=>Bt r (List.mem_cons_of_mem _ hr))
end H4
theorem cn:∀ {rest:List Oper} {i:Nat} {st:St} {l:List PS} {fin:St},Path P Γ ops gs rest i st l fin→l.map (·.i)=List.range' i rest.length∧l.map (·.o)=rest∧(∀p∈l,p.log.i=p.i∧p.log.d=p.o.dst):=by
 intro rest i st l fin h
 induction h with
 | nil=>exact⟨rfl,rfl,by simp⟩
 | skip o rest i st l fin hw aI h ih=>
  refine⟨by simp [ih.1,List.range'_succ],by simp [ih.2.1],fun p hp=> ?_⟩
  rcases List.mem_cons.1 hp with rfl | hp
  ·exact⟨rfl,rfl⟩
  ·exact ih.2.2 p hp
 | op o rest i st l fin e hw aI he hr h ih=>
  refine⟨by simp [ih.1,List.range'_succ],by simp [ih.2.1],fun p hp=> ?_⟩
  rcases List.mem_cons.1 hp with rfl | hp
  ·obtain⟨s,r,hr⟩:=hr
   simp [bF,hr]
  ·exact ih.2.2 p hp
 | JI o rest i st l fin e s g hw aI he hr hd hg h ih=>
  refine⟨by simp [ih.1,List.range'_succ],by simp [ih.2.1],fun p hp=> ?_⟩
  rcases List.mem_cons.1 hp with rfl | hp
  ·obtain⟨s,r,hr⟩:=hr
   simp [bF,hr]
  ·exact ih.2.2 p hp
def DU (st:St) (l:List PS) (fin:St):Prop:=
 (∀p∈l,(∀s,p.st.get s=kB (fun k=>decide (k<p.i)) l s (st.get s))∧(∀id,p.st.obj id=kC (fun k=>decide (k<p.i)) l id (st.obj id))∧p.st.n=st.n)∧
  (∀s,fin.get s=kB (fun _=>true) l s (st.get s))∧(∀id,fin.obj id=kC (fun _=>true) l id (st.obj id))∧fin.n=st.n
theorem iL (p0:PS) {st Jh:St} {Jg:List Oper} {l':List PS} {GV:St} {i:Nat} (hi:p0.i=i) (gT:p0.st=st) (hf:∀s,Jh.get s=p0.f s (st.get s)) (hh:∀id,Jh.obj id=p0.h id (st.obj id)) (hn:Jh.n=st.n)
  (dv:Path P Γ ops gs Jg (i+1) Jh l' GV) (ih:DU Jh l' GV):DU st (p0::l') GV:=by
 have Ip:=(cn dv).1
 have Ev:∀p∈l',i+1≤p.i:=by
  intro p hp
  have:p.i∈l'.map (·.i):=List.mem_map_of_mem hp
  rw[Ip] at this
  exact (List.mem_range'_1.1 this).1
 refine⟨fun p hp=> ?_,fun s=> ?_,fun id=> ?_,ih.2.2.2.trans hn⟩
 ·rcases List.mem_cons.1 hp with rfl | hp
  ·have none_lt:∀q∈p::l',decide (q.i<p.i)=false:=by
    intro q hq
    rcases List.mem_cons.1 hq with rfl | hq
    ·simp
    ·have:=Ev q hq
     simp
     omega
   refine⟨fun s=> ?_,fun id=> ?_,by rw[gT]⟩
   ·have:=eS (fun q v=>PS.f q s v) (L:=fun k=>decide (k<p.i)) (p::l') (st.get s) none_lt
    rw[gT]
    exact this.symm
   ·have:=eS (fun q v=>PS.h q id v) (L:=fun k=>decide (k<p.i)) (p::l') (st.obj id) none_lt
    rw[gT]
    exact this.symm
  ·have h0:=Ev p hp
   have cl:decide (p0.i<p.i)=true:=by simp;omega
   obtain⟨g1,g2,g3⟩:=ih.1 p hp
   refine⟨fun s=> ?_,fun id=> ?_,g3.trans hn⟩
   ·rw[g1 s,hf s]
    unfold kB
    simp only[List.foldl_cons,cl,if_true]
   ·rw[g2 id,hh id]
    unfold kC
    simp only[List.foldl_cons,cl,if_true]
 ·rw[ih.2.1 s,hf s]
  unfold kB
  simp only[List.foldl_cons,if_true]
 ·rw[ih.2.2.1 id,hh id]
  unfold kC
  simp only[List.foldl_cons,if_true]
theorem EZ {st:St} {o:Oper} {e:cF} {s:Nat} {g:Bool} (hd:o.dst=some s) (p:PS) (hp:p.o=o) (KF:p.e= {e with sv:= .kb g}) (k:Nat):(((st.apply o.dst e).reset).fB s g).get k=p.f k (st.get k):=by
 rw[lU]
 have e1:(st.apply o.dst e).reset.get=(st.apply o.dst e).get:=rfl
 rw[e1,hd,apply_get]
 unfold PS.f
 rw[hp,hd,KF]
 simp only[az,Option.some.injEq]
 by_cases hk:k=s
 ·simp [hk]
 ·rw[if_neg hk,if_neg hk,if_neg (fun h:s=k=>hk h.symm)]
theorem E0 {st:St} {o:Oper} {e:cF} {s:Nat} {g:Bool} (p:PS) (hp:p.o=o) (KF:p.e= {e with sv:= .kb g}) (id:Nat):(((st.apply o.dst e).reset).fB s g).obj id=p.h id (st.obj id):=by
 have e1:(((st.apply o.dst e).reset).fB s g).obj id=(st.apply p.o.dst p.e).obj id:=by
  rw[eQ,KF]
  show (st.apply o.dst e).obj id=_
  rw[eQ]
 rw[e1]
 exact jd st p id
theorem kL {rest:List Oper} {i:Nat} {st:St} {l:List PS} {fin:St} (h:Path P Γ ops gs rest i st l fin):DU st l fin:=by
 induction h with
 | nil=>exact⟨by simp,fun _=>rfl,fun _=>rfl,rfl⟩
 | skip o rest i st l fin hw aI h ih=>
  exact iL ⟨i,o,false,st, {sv:= .undef},iy ops i o⟩ rfl rfl (fun s=>ld st ⟨i,o,false,st, {sv:= .undef},iy ops i o⟩ s) (fun id=>jd st ⟨i,o,false,st, {sv:= .undef},iy ops i o⟩ id) rfl h ih
 | op o rest i st l fin e hw aI he hr h ih=>
  refine iL ⟨i,o,true,st,e,bF P Γ ops i st o⟩ rfl rfl (fun s=> ?_) (fun id=> ?_) ?_ h ih
  ·rw[he];exact ld st ⟨i,o,true,st,e,bF P Γ ops i st o⟩ s
  ·rw[he];exact jd st ⟨i,o,true,st,e,bF P Γ ops i st o⟩ id
  ·rw[he];rfl
 | JI o rest i st l fin e s g hw aI he hr hd hg h ih=>
  refine iL ⟨i,o,true,st, {e with sv:= .kb g},bF P Γ ops i st o⟩ rfl rfl (fun s=> ?_) (fun id=> ?_) ?_ h ih
  ·rw[he];exact EZ hd ⟨i,o,true,st, {e with sv:= .kb g},bF P Γ ops i st o⟩ rfl rfl s
  ·rw[he];exact E0 ⟨i,o,true,st, {e with sv:= .kb g},bF P Γ ops i st o⟩ rfl rfl id
  ·rw[he];rfl
def iK (P:Program) (Γ:Ctx) (ops:Array Oper) (p:PS):Prop:=
 (fg ops p.st p.o=some false∧p.e= {sv:= .undef} ∧(p.st.skip p.o.dst).ok=true∧p.log=iy ops p.i p.o)∨
 (fg ops p.st p.o=some true∧∃e s r,(evalOp P Γ p.o).run p.st.get p.st.obj=some (e,s,r)∧(p.st.apply p.o.dst e).ok=true∧p.log=bF P Γ ops p.i p.st p.o∧
  (p.e=e∨∃d g,p.o.dst=some d∧e.sv= .bool g∧p.e= {e with sv:= .kb g}))
theorem CA {rest:List Oper} {i:Nat} {st:St} {l:List PS} {fin:St} (h:Path P Γ ops gs rest i st l fin):∀p∈l,iK P Γ ops p:=by
 induction h with
 | nil=>simp
 | skip o rest i st l fin hw aI h ih=>
  intro p hp
  rcases List.mem_cons.1 hp with rfl | hp
  ·exact .inl ⟨hw,rfl,aI,rfl⟩
  ·exact ih p hp
 | op o rest i st l fin e hw aI he hr h ih=>
  intro p hp
  rcases List.mem_cons.1 hp with rfl | hp
  ·obtain⟨s,r,hr⟩:=hr
   exact .inr ⟨hw,e,s,r,hr,by rw[←he];exact aI,rfl,.inl rfl⟩
  ·exact ih p hp
 | JI o rest i st l fin e s g hw aI he hr hd hg h ih=>
  intro p hp
  rcases List.mem_cons.1 hp with rfl | hp
  ·obtain⟨s',r,hr⟩:=hr
   exact .inr ⟨hw,e,s',r,hr,by rw[←he];exact aI,rfl,.inr ⟨s,g,hd,hg,rfl⟩⟩
  ·exact ih p hp
end
end Go.Proofs.YtoaflbnkiobhdaaGreat.Vm
