/- The value machine: calls, every operation, regions in every order. Conditions: as each lemma says. -/
import Derived.Test.YthpmalpdnnbkgaaGreatVb
import Derived.ArgAppend
set_option linter.unusedVariables false
set_option linter.unusedSimpArgs false
namespace Go.Proofs.YthpmalpdnnbkgaaGreat.Vm
section
variable {P:Program} {Γ:Ctx} {w0:World} {S:Own} {st:St} {o:Oper} {e:u4} {a:Act} {w w':World}
variable {f:Nat→SV} {h:Nat→Option bP} {β:Env} {φ:Nat→List Nat} {tm:Array Value}
theorem aja (hR:Rel w0 S st a w) (hd:∀d,o.dst=some d→eD st.n d) {g:Nat} {first cap:Array Operand} (ho:o.op= .makeFunc (.func g) first cap) (hf:first.toList=[]) {cs:List SV}
  (hcs:(aiM cap.toList).val st.get st.obj=some cs) (he:e= {sv:= .clo g cs}):Good P w0 S st o e a w:=by
 subst he
 have hf':first= #[]:=by cases first;simp at hf;subst hf;rfl
 subst hf'
 refine cl hR hd rfl rfl fun β φ hc=> ?_
 refine⟨.func (.func g) #[] (cap.map a.eval), ?_, ?_⟩
 ·simp [execOp,ho,Instr.makeFunc]
 ·simp only[bX]
  refine⟨cap.toList.map a.eval, ?_,QC hc _ _ hcs⟩
  rw[←Array.toList_map,Array.toArray_toList]
theorem ary {c:Call} {k g:Nat} {fn:Func} {vs:List Value} (ho:o.op= .call c) (hg:c.callee= .value (.tmp k)) (hv:a.eval (.tmp k)= .func (.func g) #[] vs.toArray) (hf:P.funcs[g]? =some fn) (hb:fn.body.isSome=true)
  (hn:(fn.name== "runtime.NumGoroutine")=false):(execOp a.eval o).run P w= .ok (.enter g ((c.args.toList.map a.eval)++vs).toArray) w:=by
 have hb':fn.body.isNone=false:=by cases h:fn.body<;>simp_all
 have e1:((c.args.toList.map a.eval)++vs).toArray=c.args.map a.eval++vs.toArray:=by
  rw[←List.append_toArray,←Array.toList_map,Array.toArray_toList]
 rw[e1]
 simp only[execOp,ho,resolve,hg,hv,Deferred.ofValue,Sem.run_bind,Sem.run_pure,Result.andThen_ok,invoke,callFunc,run_program,hf,hn,hb',Bool.false_eq_true,if_false]
 simp
theorem apA (DQ:ai P Γ) {s:Sum} {g k:Nat} {cs:List SV} (hs:lkS Γ g=some s) (vJ:s.ann=false) (hpt:s.pt=none) (hms:s.ms≠[]) (hR:Rel w0 S st a w) (hd:∀d,o.dst=some d→eD st.n d) (lR:∀d,o.dst=some d→e.ow≠[]→jr st d)
  {c:Call} (ho:o.op= .call c) (hg:c.callee= .value (.tmp k)) (hk:(oq (.tmp k)).val st.get st.obj=some (.clo g cs)) {l:List SV}
  (hl:(aiM c.args.toList).val st.get st.obj=some l) (he:(aa9 s o.dst (l++cs)).val st.get st.obj=some e) (hok:e.ok=true):Good P w0 S st o e a w:=by
 obtain⟨β,φ,hc⟩:=hR.core
 have hx:=hc.ev hk
 simp only[bX] at hx
 obtain⟨vs,hv,_⟩:=hx
 refine abS DQ hs vJ hpt hms hR hd lR (us:=(c.args.toList.map a.eval)++vs) (fun fn hf hb hn=>ary ho hg hv hf hb hn) (fun β φ hc=> ?_) he hok
 have hx:=hc.ev hk
 simp only[bX] at hx
 obtain⟨vs',hv',h'⟩:=hx
 rw[hv] at hv'
 injection hv' with _ _ h3
 have:vs=vs':=by simpa using h3
 subst this
 exact bt.append _ _ _ _ (QC hc _ l hl) h'
theorem amv (hR:Rel w0 S st a w) (hd:∀d,o.dst=some d→eD st.n d) {t:TypeId} {x:Operand} {lo hi:Option Operand} (ho:o.op= .slice t x lo hi none) {sx:SV} {slo shi:Option SV}
  (h1:(oq x).val st.get st.obj=some sx) (h2:(aa7 lo).val st.get st.obj=some slo) (h3:(aa7 hi).val st.get st.obj=some shi)
  (he:(an8 P t sx slo shi).val st.get st.obj=some e) (hok:e.ok=true):Good P w0 S st o e a w:=by
 unfold an8 at he
 split at he
 ·rename_i et id k l hu
  simp only[M.eB,Option.bind_eq_some_iff] at he
  obtain⟨ob,dT,he⟩:=he
  split at he
  ·rename_i t' ct r fz u
   cases hz:Nat.beq t' et && eA P et ct.length
   ·simp [hz] at he
   simp only[hz,cond_true,M.ax,Option.some.injEq] at he
   subst he
   simp only[Bool.and_eq_true] at hz
   simp only[Bool.and_eq_true,decide_eq_true_eq] at hok
   obtain⟨i,hi',hsz⟩:=ep hz.2
   refine cl hR hd rfl rfl fun β φ hc=> ?_
   have hx:=hc.ev h1
   simp only[bX] at hx
   obtain⟨vals,fps,eO,_⟩:=hc.dA id _ dT
   rcases eO.2 with ⟨_,h0,_⟩ | ⟨g,cap,cur,hv,hg,hnc,hcm,hcs,htk⟩
   ·omega
   have hb:=UW (P:=P) (isS:=true) (n:=r.length) (cap:=cap) (l:=l.toNat) (m:=r.length) (c:=decide (0≤l) && decide (l≤(r.length:Int))) hnc hc h2 h3 rfl (by simp only[Bool.and_eq_true,decide_eq_true_eq];exact hok.1)
   refine⟨.slice (some ⟨g,if l.toNat<cap then l.toNat*ct.length else 0,none⟩) (r.length - l.toNat) (cap - l.toNat), ?_, ?_⟩
   ·have fa:(execOp a.eval o).run P w= .ok (.value (.slice (if cap=l.toNat then some ⟨g,0,none⟩ else (some (⟨g,0,none⟩:Addr)).map (·.add (l.toNat*i.size))) (r.length - l.toNat) (cap - l.toNat))) w:=by
     simp [execOp,ho,hx.1,hv,Instr.sliceAt,Instr.slice,run_underlying hu,hb,sizeOf,typeInfo,hi']
    rw[fa]
    by_cases hlt:l.toNat<cap
    ·rw[if_neg (by omega),if_pos hlt,hsz]
     simp [sQ]
    ·rw[if_pos (by omega),if_neg hlt]
   ·simp only[bX]
    exact⟨g,r.length,cap,hv,by omega,rfl⟩
  ·simp at he
 ·simp at he
theorem Bu.take {ct:List CT} {rows:List (List DC)} {vals:List Value} {fps:List (List Nat)} (u_:Bu w ct rows vals fps) (k:Nat):Bu w ct (rows.take k) (vals.take (k*ct.length)) (fps.take k):=by
 refine⟨by simp [u_.1],fun i r f hi hf=> ?_⟩
 rw[List.getElem?_take] at hi hf
 split at hi
 ·rename_i hik
  rw[if_pos hik] at hf
  refine fi.RdL.UU (fun j u hj hu=> ?_) (u_.2 i r f hi hf)
  rw[List.getElem?_take,if_pos]
  ·exact hu
  ·have:(i+1)*ct.length≤k*ct.length:=Nat.mul_le_mul_right _ hik
   rw[Nat.succ_mul] at this
   omega
 ·cases hi
theorem Bu.drop {ct:List CT} {rows:List (List DC)} {vals:List Value} {fps:List (List Nat)} (u_:Bu w ct rows vals fps) (k:Nat):Bu w ct (rows.drop k) (vals.drop (k*ct.length)) (fps.drop k):=by
 refine⟨by simp [u_.1],fun i r f hi hf=> ?_⟩
 rw[List.getElem?_drop] at hi hf
 refine fi.RdL.UU (fun j u hj hu=> ?_) (u_.2 (k+i) r f hi hf)
 rw[List.getElem?_drop,←hu]
 congr 1
 rw[Nat.add_mul]
 omega
theorem ajb {t ty et:TypeId} {i:TypeInfo} (ht:P.underlying t=some (.slice et)) (hi:P.info? et=some i) {g off sLen sCap:Nat} {cur:Array Value} {t':TypeId} (hg:w.heap[g]? =some (.cells cur t' (0,0)))
  {ad:Addr} {m c:Nat} {news:List Value} (hl:news.length=m*i.size) (aqf:∀j u,news[j]? =some u→w.cell? (ad.add j)=some u) (h1:∀u∈news,u.oneCell'=true) (qV:sLen+m≤sCap) (hfit:off+sLen*i.size+news.length≤cur.size):
  (Builtin.append_ #[t,t] ty #[.slice (some ⟨g,off,none⟩) sLen sCap,.slice (some ad) m c]).run P w= .ok (.slice (some ⟨g,off,none⟩) (sLen+m) sCap) (w.setRow g (cur.toList.take (off+sLen*i.size)++(news++cur.toList.drop (off+sLen*i.size+news.length))).toArray):=by
 have hfc:=run_firstCells_some (P:=P) w i.size m ad m c news hl aqf
 have QA:=ib P g (off+sLen*i.size) t' (0,0) news 0 cur w hg (fun j _ h=>by simp at h) (by omega) h1
 simp only[Nat.add_zero] at QA
 simp [Builtin.append_,run_underlying ht,sizeOf,typeInfo,hi,Builtin.lenOf,qV,hfc,Addr.add_lit,QA]
theorem Core.ended (hc:Core w0 S f h β φ tm w) {id:Nat} {ob:bP} (dT:h id=some ob) (hs:w.heap.size≤w'.heap.size) (hw:∀b,b<w.heap.size→b ∉ cb β id ob→w'.heap[b]? =w.heap[b]?):Core w0 S f (dB h id none) β φ tm w':=by
 have Ji:∀j o,dB h id none j=some o→j≠id∧h j=some o:=by
  intro j o hj
  by_cases Jj:j=id
  ·subst Jj;simp [dB] at hj
  ·simp only[dB,Jj,if_false] at hj
   exact⟨Jj,hj⟩
 have tU:∀b,Av (dB h id none) β b→Av h β b:=by
  rintro b (⟨j,o,hj,hb⟩ | hb)
  ·exact .inl ⟨j,o,(Ji j o hj).2,hb⟩
  ·exact .inr hb
 refine hc.step (fun _=>False) hs (fun b hb hn=>hw b hb (fun hx=>hn (.inl ⟨id,ob,dT,hx⟩))) (fun b hb=> .inl (tU b hb)) (fun _ _ _ h=>h) (fun _ _=>⟨rfl,rfl⟩) ?_ ?_
 ·intro j o hj
  obtain⟨Jj,hj⟩:=Ji j o hj
  refine .inl ⟨fun h=>h,hj,rfl,fun _ _ h=>h,fun b hb=> ?_⟩
  have Jt:=bF (hc.dA j o hj) b hb
  exact hw b ((hc.fresh j o hj).2 b Jt).2 (fun hx=>hc.sep id j ob o (Ne.symm Jj) dT hj b (bF (hc.dA id ob dT) b hx) Jt)
 ·intro i j oi oj sV hi hj b hb
  exact hc.sep i j oi oj sV (Ji i oi hi).2 (Ji j oj hj).2 b hb
theorem amw (hc:Core w0 S f h β φ tm w) {id:Nat} {ob:bP} (dT:h id=some ob) {b:Nat} (hb:b∈cb β id ob):¬Av (dB h id none) β b:=by
 rintro (⟨j,o,hj,hx⟩ | hx)
 ·by_cases Jj:j=id
  ·subst Jj;simp [dB] at hj
  ·simp only[dB,Jj,if_false] at hj
   exact hc.sep id j ob o (Ne.symm Jj) dT hj b (bF (hc.dA id ob dT) b hb) (bF (hc.dA j o hj) b hx)
 ·exact hc.aml dT (bF (hc.dA id ob dT) b hb) hx
theorem ajc {t:TypeId} {ct:List CT} {rows:List (List DC)} {v:Value} {vals:List Value} {fps:List (List Nat)} (eO:qC w t ct.length false v rows.length vals) (u_:Bu w ct rows vals fps) (D1:cg ct=true):
  ∃fp,RdC w (.sl ct) (.sl rows) v fp∧∀b∈fp,b∈v.ownBlock.toList:=by
 have hf:=u_.flat D1
 obtain⟨fp,h1,h2,_⟩:=fi (w:=w) (av:=fun b=>b ∉ v.ownBlock.toList) (β:=⟨fun _=>0,fun _=>v,fun _=>False,fun _=>[]⟩) (id:=0) (t:=t) (e:=ct) (rows:=rows) (fz:=false) (u:=false) (φ:=v.ownBlock.toList)
  ⟨vals,fps,eO,u_,by rw[hf];simp,by simp⟩
 refine⟨fp,h1,fun b hb=> ?_⟩
 rcases h2 b hb with h3 | h3
 ·simpa [cb] using h3
 ·exact Classical.not_not.1 h3
theorem alj (hR:Rel w0 S st a w) (hd:∀d,o.dst=some d→eD st.n d) {t et:TypeId} {s x:Operand} {c:Call} (ho:o.op= .call c) (hb:c.callee= .builtin .append) (hargs:c.args= #[s,x])
  (hat:c.argTypes= #[t,t]) {id lo:Nat} {u:Bool} {r:List (List DC)} {sx:SV} {ct:List CT} {q:List (List DC)×HJ×Bool} {z:List SV} (h1:(oq s).val st.get st.obj=some (.osl id lo ct.length)) (h2:(oq x).val st.get st.obj=some sx)
  (dT:st.obj id=some (.row et ct r false u)) (hu:P.underlying t=some (.slice et)) (D1:cg ct=true)
  (hsz:eA P et ct.length=true) (hp:0<ct.length) (hz:(Bk P et).val st.get st.obj=some z) (hzl:z.length=ct.length) (hq:(S2 ct sx).val st.get st.obj=some q) (as5:lU id q.2.1=true) (hlo:lo≤r.length)
  (qV:Jd P et ((r.drop lo).length+q.1.length)=true) (Mv:e.sv= .sl ct (r.drop lo++q.1)) (XO:e.cw=none) (how:e.ow=[(id,none)]):Good P w0 S st o e a w:=by
 obtain⟨i,hi,fy⟩:=ep hsz
 obtain⟨i',zv,hi',hzv,rfl,_⟩:=zn hz
 rw[hi] at hi'
 injection hi' with hi'
 subst hi'
 obtain⟨aqr,ate⟩:=anr hi qV
 obtain⟨β,φ,hc⟩:=hR.core
 obtain⟨fp,hrd,ao8,arp,RI,hfu⟩:=Qb hc (hc.ev h2) hq
 obtain⟨Q,m,cc,hxv,hml, -, -, -⟩:=vI hrd
 rw[hxv] at hrd
 obtain⟨hmr,news,abj,hnl,hqn,hcell,fm,Ow,Ji,ars⟩:=QB hrd hp
 have hs0:=hc.ev h1
 simp only[bX] at hs0
 obtain⟨g,n,cap,hval,hln,UY⟩:=hs0
 obtain⟨vals,fps,eO,u_,asv,hφ⟩:=hc.dA id _ dT
 have hft:∀b∈cb β id (.row et ct r false u),b=g:=by
  intro b hb'
  simp only[cb,hval,Value.ownBlock] at hb'
  simpa using hb'
 have hgt:g∈cb β id (.row et ct r false u):=by simp [cb,hval,Value.ownBlock]
 rcases eO.2 with ⟨hv0,_,_⟩ | ⟨g',asy,cur,hv',hg,hnc,hcm,hcs,htk⟩
 ·rw[hval] at hv0;cases hv0
 rw[hval] at hv'
 injection hv' with e1 e2 e3
 injection e1 with e1
 injection e1 with e1
 subst e1 e2 e3
 have ams:=bF (hc.dA id _ dT) g hgt
 have hgS:=(hc.fresh id _ dT).2 g ams
 have hvl:=eO.1
 have arW:=Ow.flat D1
 have hdl:(r.drop lo).length=r.length - lo:=by simp
 have arz:∀(v':Value) (w':World),(Builtin.append_ #[t,t] o.type #[a.eval s,.slice Q m cc]).run P w= .ok v' w'→Kept S w0 w'→w.heap.size≤w'.heap.size→(∀b,b<w.heap.size→b≠g→w'.heap[b]? =w.heap[b]?)→
   (∃fp',RdC w' (.sl ct) (.sl (r.drop lo++q.1)) v' fp'∧∀b∈fp',b=g∨w.heap.size≤b)→Good P w0 S st o e a w:=by
  intro v' w' fa hk hs hw hr'
  refine oe hR hd (v:=v') (w':=w') ?_ hk ⟨β,φ, ?_, ?_⟩
  ·simp [execOp,ho,resolve,hb,hargs,hat,invoke,builtin,hxv,fa]
  ·rw[how,XO]
   exact hc.ended dT hs (fun b hb' hx=>hw b hb' (fun e=>hx (e ▸ hgt)))
  ·rw[Mv,how,XO]
   unfold bX
   obtain⟨fp',hr',hb'⟩:=hr'
   refine⟨fp',hr',fun b hx=> ?_⟩
   rcases hb' b hx with rfl | hge
   ·exact amw hc dT hgt
   ·intro tU
    have atY:Av st.obj β b:=by
     rcases tU with ⟨j,oj,hj,ie⟩ | hx'
     ·by_cases Jj:j=id
      ·subst Jj;simp [fo,fc,dB] at hj
      ·simp only[fo,fc,dB,Jj,if_false] at hj
       exact .inl ⟨j,oj,hj,ie⟩
     ·exact .inr hx'
    have:=hc.arQ hR.kept.size atY
    omega
 cases Q with
 | none=>
  have hm0:=hqn rfl
  subst hm0
  have hn0:news=[]:=by simpa using hnl
  have hq0:q.1=[]:=by simpa using hmr.symm
  refine arz (a.eval s) w ?_ hR.kept (Nat.le_refl _) (fun _ _ _=>rfl) ?_
  ·rw[UY]
   simp [Builtin.append_,run_underlying hu,sizeOf,typeInfo,hi,Builtin.lenOf,Builtin.firstCells,show r.length - lo≤cap - lo by omega,storeCells]
  ·rw[hq0,List.append_nil]
   obtain⟨fp1,hr1,hf1⟩:=ajc eO u_ D1
   rw[hval] at hr1 hf1
   obtain⟨PT,hr2,hf2⟩:=aiZ hr1 hlo (Nat.le_refl _)
   rw[List.take_length] at hr2
   rcases Nat.eq_zero_or_pos (r.length - lo) with h0 | h0
   ·refine⟨[], ?_,by simp⟩
    rw[UY]
    exact PR (by simp) (by omega) (by omega) (.inl ⟨h0,rfl⟩)
   ·rw[if_neg (by omega)] at hr2
    rw[UY,if_pos (by omega)]
    refine⟨PT,by simpa [sQ] using hr2,fun b hb'=> .inl ?_⟩
    simpa [Value.ownBlock] using hf1 b (hf2 b hb')
 | some ad=>
  by_cases hrm:r.length+m≤cap
  ·have hfit:(if lo<cap then lo*ct.length else 0)+(r.length - lo)*i.size+news.length≤cur.size:=by
    rw[fy,hnl,hcs]
    have h3:(r.length+m)*ct.length≤cap*ct.length:=Nat.mul_le_mul_right _ hrm
    rw[Nat.add_mul] at h3
    have h4:lo*ct.length+(r.length - lo)*ct.length=r.length*ct.length:=by rw[←Nat.add_mul];congr 1;omega
    split<;>omega
   have fa:=ajb (P:=P) (ty:=o.type) (c:=cc) (w:=w) (off:=if lo<cap then lo*ct.length else 0) (sLen:=r.length - lo) (sCap:=cap - lo) hu hi hg (by rw[fy];exact hnl) (hcell ad rfl) fm (by omega) hfit
   by_cases hlt:lo<cap
   ·rw[if_pos hlt] at fa hfit
    have ai3:lo*ct.length+(r.length - lo)*i.size=r.length*ct.length:=by rw[fy,←Nat.add_mul];congr 1;omega
    rw[ai3] at fa hfit
    refine arz _ _ (by rw[UY,if_pos hlt];exact fa) (hR.kept.setRow hgS.1 _) (by simp) (fun b hb' sV=>setRow_other w g b _ sV) ?_
    have X0:(cur.toList.take (r.length*ct.length)++(news++cur.toList.drop (r.length*ct.length+news.length))).length=cur.size:=by
     simp only[List.length_append,List.length_take,List.length_drop,Array.length_toList]
     omega
    have KF:qC (w.setRow g (cur.toList.take (r.length*ct.length)++(news++cur.toList.drop (r.length*ct.length+news.length))).toArray) et ct.length false (.slice (some ⟨g,0,none⟩) (r++q.1).length cap) (r++q.1).length (vals++news):=by
     refine⟨by rw[List.length_append,hvl,hnl,List.length_append,←hmr,Nat.add_mul],.inr ⟨g,cap,_,rfl,by rw[setRow_heap w _ _ _ _ _ hg];rfl,by rw[List.length_append,←hmr];exact hrm,hcm,by simp only[List.size_toArray,X0];exact hcs, ?_⟩⟩
     have hlen:(r++q.1).length*ct.length=(vals++news).length:=by rw[List.length_append,List.length_append,hvl,hnl,←hmr,Nat.add_mul]
     rw[hlen,htk]
     show (vals++(news++_)).take (vals++news).length=vals++news
     rw[←List.append_assoc,List.take_left]
    have abg:Bu (w.setRow g (cur.toList.take (r.length*ct.length)++(news++cur.toList.drop (r.length*ct.length+news.length))).toArray) ct (r++q.1) (vals++news) (fps++abj):=
     (u_.append hvl Ow).mono (by simp) (fun b hb'=>by
      rw[List.flatten_append,u_.flat D1,arW] at hb'
      simp at hb')
    obtain⟨fp1,hr1,hf1⟩:=ajc KF abg D1
    obtain⟨fp3,hr3,hf3⟩:=aiZ hr1 (show lo≤(r++q.1).length by rw[List.length_append];omega) (Nat.le_refl _)
    rw[if_neg (by omega),List.take_length,List.drop_append_of_le_length hlo] at hr3
    refine⟨fp3, ?_,fun b hb'=> .inl ?_⟩
    ·have e4:(r++q.1).length - lo=r.length - lo+m:=by rw[List.length_append,←hmr];omega
     rw[e4] at hr3
     simpa [sQ] using hr3
    ·simpa [Value.ownBlock] using hf1 b (hf3 b hb')
   ·have hm0:m=0:=by omega
    subst hm0
    have hn0:news=[]:=by simpa using hnl
    have hq0:q.1=[]:=by simpa using hmr.symm
    refine arz _ _ (by rw[UY];exact fa) (hR.kept.setRow hgS.1 _) (by simp) (fun b hb' sV=>setRow_other w g b _ sV) ?_
    refine⟨[], ?_,by simp⟩
    rw[hq0,List.append_nil]
    exact PR (by simp) (by omega) (by omega) (.inl ⟨by omega,rfl⟩)
  ·have holds:∀j uu,(vals.drop (lo*ct.length))[j]? =some uu→w.cell? ((⟨g,if lo<cap then lo*ct.length else 0,none⟩:Addr).add j)=some uu:=by
    intro j uu hj
    rw[List.getElem?_drop] at hj
    have hlt:lo<cap:=by
     have h3:=(List.getElem?_eq_some_iff.1 hj).1
     rw[hvl] at h3
     have h4:lo<r.length:=by
      rcases Nat.lt_or_ge lo r.length with h5 | h5
      ·exact h5
      ·have:=Nat.mul_le_mul_right ct.length h5
       omega
     omega
    rw[if_pos hlt,sQ]
    rw[←htk,List.getElem?_take] at hj
    split at hj
    ·simp only[World.cell?,hg]
     simpa using hj
    ·cases hj
   obtain⟨v',w',fa,KF,zo⟩:=run_append_arg_grows (P:=P) w t o.type et i zv ct.length i.bytes hu hi hzv fy rfl (by simpa using hzl) hp ⟨g,if lo<cap then lo*ct.length else 0,none⟩ (r.length - lo) (cap - lo) (vals.drop (lo*ct.length))
    (by rw[List.length_drop,hvl,Nat.sub_mul]) holds ad m cc news hnl (hcell ad rfl) (by omega) (by rw[hmr];rw[hdl] at ate;exact ate) (by rw[hmr];rw[hdl] at aqr;exact aqr)
   refine arz v' w' (by rw[UY];exact fa) (hR.kept.grown zo (by simp)) zo.size (fun b hb' _=>zo.block b hb' (by simp)) ?_
   have hrl:r.length - lo+m=(r.drop lo++q.1).length:=by rw[List.length_append,hdl,hmr]
   have abg:Bu w' ct (r.drop lo++q.1) (vals.drop (lo*ct.length)++news) (fps.drop lo++abj):=
    ((u_.drop lo).append (by rw[List.length_drop,hvl,hdl,Nat.sub_mul]) Ow).mono zo.size (fun b hb'=>by
     rw[List.flatten_append,(u_.drop lo).flat D1,arW] at hb'
     simp at hb')
   have aqs:qC w' et ct.length false v' (r.drop lo++q.1).length (vals.drop (lo*ct.length)++news):=by rw[←hrl];exact qC.ap4 KF
   obtain⟨fp1,hr1,hf1⟩:=ajc aqs abg D1
   refine⟨fp1,hr1,fun b hb'=> .inr ?_⟩
   have hx:=hf1 b hb'
   rcases KF.2 with ⟨rfl,_⟩ | ⟨g2,auz,auA,rfl,hge,_⟩
   ·simp [Value.ownBlock] at hx
   ·simp [Value.ownBlock] at hx
    omega
theorem aot (hR:Rel w0 S st a w) (hd:∀d,o.dst=some d→eD st.n d) {t t2:TypeId} {x y:Operand} {c:Call} (ho:o.op= .call c) (hb:c.callee= .builtin .copy) (hargs:c.args= #[x,y]) (hat:c.argTypes= #[t,t2]) {sx sy:SV}
  (h1:(oq x).val st.get st.obj=some sx) (h2:(oq y).val st.get st.obj=some sy) (he:(apW P t sx sy).val st.get st.obj=some e) (hok:e.ok=true):Good P w0 S st o e a w:=by
 unfold apW at he
 split at he
 ·rename_i et id lo z s hu
  simp only[M.eB,Option.bind_eq_some_iff] at he
  obtain⟨ob,dT,he⟩:=he
  split at he
  ·rename_i t' ct r fz u
   cases hz:Nat.beq t' et && eA P et 1 && Nat.beq z 1 && dG ct [.int .u8]
   ·simp [hz] at he
   simp only[hz,cond_true,M.ax,Option.some.injEq] at he
   subst he
   simp only[Bool.and_eq_true] at hz
   have hct:=dR _ _ hz.2
   subst hct
   have hz1:=Nat.eq_of_beq_eq_true hz.1.2
   subst hz1
   obtain⟨i,hi,fy⟩:=ep hz.1.1.2
   have hlo:lo≤r.length:=by simpa using hok
   obtain⟨β,φ,hc⟩:=hR.core
   have hs0:=hc.ev h1
   simp only[bX] at hs0
   obtain⟨g,n,cap,hval,hln,UY⟩:=hs0
   have hy:=hc.ev h2
   simp only[bX] at hy
   obtain⟨vals,fps,eO,u_,asv,hφ⟩:=hc.dA id _ dT
   have hgt:g∈cb β id (.row t' [.int .u8] r fz u):=by simp [cb,hval,Value.ownBlock]
   rcases eO.2 with ⟨hv0,_,_⟩ | ⟨g',asy,cur,hv',hg,hnc,hcm,hcs,htk⟩
   ·rw[hval] at hv0;cases hv0
   rw[hval] at hv'
   injection hv' with e1 e2 e3
   injection e1 with e1
   injection e1 with e1
   subst e1 e2 e3
   have ams:=bF (hc.dA id _ dT) g hgt
   have hgS:=(hc.fresh id _ dT).2 g ams
   have hvl:=eO.1
   simp only[List.length_cons,List.length_nil,Nat.zero_add,Nat.mul_one] at hvl hcs htk UY
   have anC:cg [CT.int .u8]=true:=rfl
   let us:List Value:=(s.take (r.length - lo)).map fun b=>Value.int .u8 b.toNat
   have hul:us.length=min s.length (r.length - lo):=by simp [us,Nat.min_comm]
   have fm:∀v∈us,v.oneCell'=true:=by
    intro v hv
    simp only[us,List.mem_map] at hv
    obtain⟨b,_,rfl⟩:=hv
    rfl
   have aqd:∀j,j<cur.size→¬((bif fz then (cur.size,cur.size+1) else ((0,0):Nat×Nat)).1≤j∧j<(bif fz then (cur.size,cur.size+1) else ((0,0):Nat×Nat)).2):=by
    intro j hj
    cases fz<;>simp<;>omega
   have asz:us=[]∨(if lo<cap then lo else 0)=lo:=by
    rcases Nat.lt_or_ge lo cap with h3 | h3
    ·exact .inr (if_pos h3)
    ·refine .inl ?_
     have:us.length=0:=by rw[hul];omega
     exact List.eq_nil_of_length_eq_zero this
   have asA:(storeCells ⟨g,if lo<cap then lo else 0,none⟩ us 0).run P w= .ok () (w.setRow g (cur.toList.take lo++(us++cur.toList.drop (lo+us.length))).toArray):=by
    rcases asz with h3 | h3
    ·rw[h3]
     simp only[storeCells,List.nil_append,List.length_nil,Nat.add_zero,List.take_append_drop,Array.toArray_toList]
     rw[setRow_self w g cur t' _ hg]
     rfl
    ·rw[h3]
     have:=ib P g lo t' _ us 0 cur w hg aqd (by rw[hul,hcs];omega) fm
     simpa only[Nat.add_zero] using this
   have ai0:(Builtin.firstCells i.size (Nat.min s.length (r.length - lo)) (.string ⟨s.toArray⟩)).run P w= .ok us.toArray w:=by
    have:((⟨s.toArray⟩:ByteArray).extract 0 (Nat.min s.length (r.length - lo))).data.map (fun b=>Value.int .u8 b.toNat)=us.toArray:=by
     rw[abJ]
     have e5:s.take (Nat.min s.length (r.length - lo))=s.take (r.length - lo):=by
      rcases Nat.le_total s.length (r.length - lo) with h3 | h3
      ·rw[show Nat.min s.length (r.length - lo)=s.length from Nat.min_eq_left h3,List.take_length,List.take_of_length_le h3]
      ·rw[show Nat.min s.length (r.length - lo)=r.length - lo from Nat.min_eq_right h3]
     simp [us,e5]
    simp only[Builtin.firstCells,Sem.run_pure,this]
   have X0:(cur.toList.take lo++(us++cur.toList.drop (lo+us.length))).length=cur.size:=by
    simp only[List.length_append,List.length_take,List.length_drop,Array.length_toList]
    omega
   have GS:(r.take lo++(((s.take (r.length - lo)).map ofByte)++r.drop (lo+min s.length (r.length - lo)))).length=r.length:=by
    simp only[List.length_append,List.length_take,List.length_drop,List.length_map]
    omega
   have atZ:Bu w [.int .u8] ((s.take (r.length - lo)).map ofByte) us (List.replicate us.length []):=by
    refine⟨by simp [us],fun k r' f' hk hf=> ?_⟩
    have hkl:k<(s.take (r.length - lo)).length:=by
     have:=(List.getElem?_eq_some_iff.1 hk).1
     simpa using this
    have hr':r'=ofByte (s.take (r.length - lo))[k]:=by
     rw[List.getElem?_map,List.getElem?_eq_getElem hkl] at hk
     simpa using hk.symm
    have hf':f'=[]:=by
     have:=List.mem_of_getElem? hf
     exact (List.mem_replicate.1 this).2
    subst hr' hf'
    unfold ofByte
    simp only[RdL,RdC]
    refine⟨.int (s.take (r.length - lo))[k].toNat,[],.int .u8 (s.take (r.length - lo))[k].toNat,[],[],rfl, ?_,⟨_,rfl,rfl, ?_,rfl⟩,⟨rfl,rfl⟩,rfl⟩
    ·simp only[us,List.length_cons,List.length_nil,Nat.zero_add,Nat.mul_one,Nat.add_zero]
     rw[List.getElem?_map,List.getElem?_eq_getElem hkl]
     rfl
    ·rw[Hy]
     have h1:IntKind.u8.min=0:=by decide
     have h2:IntKind.u8.max=255:=by decide
     have:=(s.take (r.length - lo))[k].toNat_lt
     omega
   have abg:Bu w [.int .u8] (r.take lo++(((s.take (r.length - lo)).map ofByte)++r.drop (lo+min s.length (r.length - lo)))) (vals.take lo++(us++vals.drop (lo+us.length))) (fps.take lo++(List.replicate us.length []++fps.drop (lo+us.length))):=by
    have a1:=u_.take lo
    have a2:=u_.drop (lo+us.length)
    simp only[List.length_cons,List.length_nil,Nat.zero_add,Nat.mul_one] at a1 a2
    rw[←hul]
    refine a1.append ?_ (atZ.append ?_ a2)
    ·simp only[List.length_cons,List.length_nil,Nat.zero_add,Nat.mul_one,List.length_take,hvl]
    ·simp [us]
   have asB:=abg.flat anC
   have asr:φ id=[g]:=by
    rw[hφ,u_.flat anC,hval]
    cases u<;>simp [Value.ownBlock]
   refine oe hR hd (v:= .int .i64 (min s.length (r.length - lo):Nat)) (w':=w.setRow g (cur.toList.take lo++(us++cur.toList.drop (lo+us.length))).toArray) ?_ (hR.kept.setRow hgS.1 _)
    ⟨β,dB φ id [g], ?_, ?_⟩
   ·have hmn:Nat.min s.length (r.length - lo)=min s.length (r.length - lo):=rfl
    simp [execOp,ho,resolve,hb,hargs,hat,invoke,builtin,Builtin.copy_,run_underlying hu,UY,hy.1,Builtin.lenOf,sizeOf,typeInfo,hi,Mu,ai0,asA,goInt]
   ·show Core w0 S st.get (dB st.obj id (some (.row t' [.int .u8] (r.take lo++(((s.take (r.length - lo)).map ofByte)++r.drop (lo+min s.length (r.length - lo)))) fz u))) _ _ _ _
    refine hc.rewrite dT hgt (fun b hb'=>hb') ?_ (by simp) ?_
    ·refine⟨vals.take lo++(us++vals.drop (lo+us.length)),fps.take lo++(List.replicate us.length []++fps.drop (lo+us.length)),⟨?_,.inr ⟨g,cap,(cur.toList.take lo++(us++cur.toList.drop (lo+us.length))).toArray,by rw[GS];exact hval, ?_,by rw[GS];exact hnc,hcm, ?_, ?_⟩⟩, ?_, ?_, ?_⟩
     ·rw[GS]
      simp only[List.length_cons,List.length_nil,Nat.zero_add,Nat.mul_one,List.length_append,List.length_take,List.length_drop,hvl]
      omega
     ·rw[setRow_heap w _ _ _ _ _ hg]
      simp only[List.size_toArray,X0]
     ·simp only[List.size_toArray,X0,List.length_cons,List.length_nil,Nat.zero_add,Nat.mul_one]
      exact hcs
     ·rw[GS]
      simp only[List.length_cons,List.length_nil,Nat.zero_add,Nat.mul_one]
      rw[P_ _ _ _ _ (by omega) (by simp only[Array.length_toList];omega),htk]
     ·exact abg.mono (by simp) (fun b hb'=>by rw[asB] at hb';simp at hb')
     ·rw[asB];simp
     ·rw[asB,hval]
      cases u<;>simp [Value.ownBlock]
    ·intro b hb'
     have hbg:b=g:=by simpa using hb'
     subst hbg
     exact⟨hgS,fun j oj hj Yh=>hc.sep id j _ _ (Ne.symm hj) dT Yh b ams⟩
   ·unfold bX
    refine⟨rfl, ?_⟩
    rw[Hy]
    have h1:IntKind.i64.min= -9223372036854775808:=by decide
    have h2:IntKind.i64.max=9223372036854775807:=by decide
    have:=hy.2
    simp only[maxLen] at this
    omega
  ·simp at he
 ·simp at he
end
end Go.Proofs.YthpmalpdnnbkgaaGreat.Vm
set_option linter.unusedVariables false
set_option linter.unusedSimpArgs false
namespace Go.Proofs.YthpmalpdnnbkgaaGreat.Vm
theorem zq (c:CT):(∃e,c= .sl e)∨cg [c]=true:=by
 cases c with
 | sl e=>exact .inl ⟨e,rfl⟩
 | _=>exact .inr rfl
theorem Jm {c:CT} {cs:List CT} :cg (c::cs)=(cg [c] && cg cs):=by
 cases c<;>rfl
theorem DH {c:CT} {cs:List CT} (hc:cg [c]=true):eK (c::cs)=eK cs:=by
 cases c with
 | sl e=>simp [cg] at hc
 | _=>rfl
theorem DI:∀ {cs:List CT},eK cs=0→cg cs=true
 | [],_=>rfl
 | c::cs,h=>by
  rcases zq c with ⟨e,rfl⟩ | hc
  ·simp [eK] at h
  ·rw[DH hc] at h
   rw[Jm,hc,DI h]
   rfl
theorem DJ:∀(a b:List CT),eK (a++b)=eK a+eK b
 | [],b=>by simp [eK]
 | c::cs,b=>by
  rcases zq c with ⟨e,rfl⟩ | hc
  ·simp only[List.cons_append,eK,DJ cs b];omega
  ·rw[List.cons_append,DH hc,DH hc,DJ cs b]
theorem flat_get:∀ {cs:List CT} {k:Nat} {e:List CT},cg cs=true→cs[k]? =some (.sl e)→False
 | [],k,e,_,h=>by simp at h
 | c::cs,k,e,hf,h=>by
  rw[Jm,Bool.and_eq_true] at hf
  cases k with
  | zero=>
   simp only[List.getElem?_cons_zero,Option.some.injEq] at h
   subst h
   simp [cg] at hf
  | succ k=>exact flat_get hf.2 (by simpa using h)
section
variable {w:World}
theorem aN.length {hv:Option Value} :∀(cs:List CT) (ts:List TypeId) (ds:List DC) (us:List Value) (mb:List Nat),aN w hv cs ts ds us mb→us.length=cs.length∧ds.length=cs.length
 | [],_,_,_,_,h=>by
  simp only[aN] at h
  obtain⟨_,rfl,rfl,_⟩:=h
  exact⟨rfl,rfl⟩
 | c::cs,_,_,_,_,h=>by
  rcases zq c with ⟨e,rfl⟩ | hc
  ·simp only[aN] at h
   obtain⟨t,DP,rows,ds',v,eo,m1,Om,rfl,rfl,rfl,_,_,h6,rfl⟩:=h
   have:=aN.length cs _ _ _ _ h6
   simp [this.1,this.2]
  ·rw[aN.flat hc] at h
   obtain⟨d,ds',v,eo,rfl,rfl,_,h4⟩:=h
   have:=aN.length cs _ _ _ _ h4
   simp [this.1,this.2]
theorem aN.lt {hv:Option Value} :∀(cs:List CT) (ts:List TypeId) (ds:List DC) (us:List Value) (mb:List Nat),aN w hv cs ts ds us mb→∀b∈mb,b<w.heap.size
 | [],_,_,_,_,h=>by
  simp only[aN] at h
  simp [h.2.2.2]
 | c::cs,_,_,_,_,h=>by
  rcases zq c with ⟨e,rfl⟩ | hc
  ·simp only[aN] at h
   obtain⟨t,DP,rows,ds',v,eo,m1,Om,rfl,rfl,rfl,_,h5,h6,rfl⟩:=h
   intro b hb
   rcases List.mem_append.1 hb with hb | hb
   ·cases hv with
    | none=>
     obtain⟨vals,fps,g1,_,rfl⟩:=h5
     exact g1.lt b hb
    | some v0=>
     rw[h5.2.2] at hb
     simp at hb
   ·exact aN.lt cs _ _ _ _ h6 b hb
  ·rw[aN.flat hc] at h
   obtain⟨d,ds',v,eo,rfl,rfl,_,h4⟩:=h
   exact aN.lt cs _ _ _ _ h4
theorem kV.lt {e:List CT} {ts:List TypeId} {rows:List (List DC)} {vals:List Value} {hv:Nat→Option Value} {d_:List (List Nat)} (h:kV w e ts rows vals hv d_):∀b∈d_.flatten,b<w.heap.size:=by
 intro b hb
 obtain⟨m,hm,hb⟩:=List.mem_flatten.1 hb
 obtain⟨i,hi,rfl⟩:=List.getElem_of_mem hm
 have hi':i<rows.length:=by have:=h.1;omega
 exact aN.lt _ _ _ _ _ (h.2 i rows[i] d_[i] (by simp) (by simp)) b hb
theorem aN.split {hv:Option Value} :∀(cs1 cs2:List CT) (ts:List TypeId) (ds:List DC) (us:List Value) (mb:List Nat),aN w hv (cs1++cs2) ts ds us mb→
  ∃ts1 ts2 m1 m2,ts=ts1++ts2∧mb=m1++m2∧aN w hv cs1 ts1 (ds.take cs1.length) (us.take cs1.length) m1∧aN w hv cs2 ts2 (ds.drop cs1.length) (us.drop cs1.length) m2
 | [],cs2,ts,ds,us,mb,h=>⟨[],ts,[],mb,rfl,rfl,by simp [aN],by simpa using h⟩
 | c::cs,cs2,_,_,_,_,h=>by
  rw[List.cons_append] at h
  rcases zq c with ⟨e,rfl⟩ | hc
  ·simp only[aN] at h
   obtain⟨t,DP,rows,ds',v,eo,m1,Om,rfl,rfl,rfl,h4,h5,h6,rfl⟩:=h
   obtain⟨a1,a2,b1,b2,rfl,rfl,k1,k2⟩:=aN.split cs cs2 _ _ _ _ h6
   refine⟨t::a1,a2,m1++b1,b2,rfl,by simp, ?_,by simpa using k2⟩
   simp only[aN,List.length_cons,List.take_succ_cons]
   exact⟨t,a1,rows,_,v,_,m1,b1,rfl,rfl,rfl,h4,h5,k1,rfl⟩
  ·rw[aN.flat hc] at h
   obtain⟨d,ds',v,eo,rfl,rfl,h3,h4⟩:=h
   obtain⟨a1,a2,b1,b2,rfl,rfl,k1,k2⟩:=aN.split cs cs2 _ _ _ _ h4
   refine⟨a1,a2,b1,b2,rfl,rfl, ?_,by simpa using k2⟩
   rw[aN.flat hc]
   simp only[List.length_cons,List.take_succ_cons]
   exact⟨d,_,v,_,rfl,rfl,h3,k1⟩
theorem aN.join {hv:Option Value} :∀(cs1 cs2:List CT) (ts1 ts2:List TypeId) (d1 d2:List DC) (u1 u2:List Value) (m1 m2:List Nat),aN w hv cs1 ts1 d1 u1 m1→aN w hv cs2 ts2 d2 u2 m2→
  aN w hv (cs1++cs2) (ts1++ts2) (d1++d2) (u1++u2) (m1++m2)
 | [],cs2,_,_,_,_,_,_,_,_,h,h2=>by
  simp only[aN] at h
  obtain⟨rfl,rfl,rfl,rfl⟩:=h
  simpa using h2
 | c::cs,cs2,_,_,_,_,_,_,_,_,h,h2=>by
  rcases zq c with ⟨e,rfl⟩ | hc
  ·simp only[aN] at h
   obtain⟨t,DP,rows,ds',v,eo,m1,Om,rfl,rfl,rfl,h4,h5,h6,rfl⟩:=h
   simp only[List.cons_append,aN]
   exact⟨t,_,rows,_,v,_,m1,_,rfl,rfl,rfl,h4,h5,aN.join cs cs2 _ _ _ _ _ _ _ _ h6 h2,by simp⟩
  ·rw[aN.flat hc] at h
   obtain⟨d,ds',v,eo,rfl,rfl,h3,h4⟩:=h
   simp only[List.cons_append]
   rw[aN.flat hc]
   exact⟨d,_,v,_,rfl,rfl,h3,aN.join cs cs2 _ _ _ _ _ _ _ _ h4 h2⟩
theorem aN.aou {hv:Option Value} :∀(cs:List CT) (ds:List DC) (us:List Value) (fp:List Nat),cg cs=true→RdL w cs ds (fun j=>us[j]?) fp→us.length=cs.length→aN w hv cs [] ds us []
 | [],ds,us,fp,_,h,hl=>by
  simp only[RdL] at h
  simp only[aN]
  exact⟨trivial,h.1,by simpa using hl,trivial⟩
 | c::cs,ds,us,fp,hf,h,hl=>by
  rw[Jm,Bool.and_eq_true] at hf
  simp only[RdL] at h
  obtain⟨d,r',v,f1,f2,rfl,h0,h1,h2,rfl⟩:=h
  cases us with
  | nil=>simp at hl
  | cons u us=>
   simp only[List.getElem?_cons_zero,Option.some.injEq] at h0
   subst h0
   rw[aN.flat hf.1]
   refine⟨d,r',u,us,rfl,rfl, ?_,aN.aou cs r' us f2 hf.2 (by simpa using h2) (by simpa using hl)⟩
   have hz:f1=[]:=Bu.aiT [c] [d] (fun _=>some u) f1 hf.1 (by simp only[RdL];exact⟨d,[],u,f1,[],rfl,rfl,h1,by simp,by simp⟩)
   subst hz
   exact h1
theorem aN.toFlat {hv:Option Value} :∀(cs:List CT) (ts:List TypeId) (ds:List DC) (us:List Value) (mb:List Nat),cg cs=true→aN w hv cs ts ds us mb→ts=[]∧mb=[]∧RdL w cs ds (fun j=>us[j]?) []
 | [],_,_,_,_,_,h=>by
  simp only[aN] at h
  obtain⟨rfl,rfl,rfl,rfl⟩:=h
  exact⟨rfl,rfl,by simp [RdL]⟩
 | c::cs,_,_,_,_,hf,h=>by
  rw[Jm,Bool.and_eq_true] at hf
  rw[aN.flat hf.1] at h
  obtain⟨d,ds',v,eo,rfl,rfl,h3,h4⟩:=h
  obtain⟨k1,k2,k3⟩:=aN.toFlat cs _ _ _ _ hf.2 h4
  refine⟨k1,k2, ?_⟩
  simp only[RdL]
  exact⟨d,ds',v,[],[],rfl,rfl,h3,by simpa using k3,rfl⟩
theorem aN.amx {hv hv':Option Value} {cs:List CT} {ts:List TypeId} {ds:List DC} {us:List Value} {mb:List Nat} (hf:cg cs=true) (h:aN w hv cs ts ds us mb):aN w hv' cs ts ds us mb:=by
 obtain⟨rfl,rfl,k3⟩:=aN.toFlat _ _ _ _ _ hf h
 exact aN.aou _ _ _ _ hf k3 (aN.length _ _ _ _ _ h).1
theorem aN.out:∀(e:List CT) (off:Nat) (e':List CT) (ts:List TypeId) (r:List DC) (us:List Value) (m:List Nat),e[off]? =some (.sl e')→eK e=1→aN w none e ts r us m→
  ∃t1 v rws,ts=[t1]∧us[off]? =some v∧r[off]? =some (.sl rws)∧cg e'=true∧SlH w none t1 e' rws v m∧aN w (some v) e [t1] r us []
 | [],_,_,_,_,_,_,h,_,_=>by simp at h
 | c::cs,off,e',_,_,_,_,h,hn,hc=>by
  rcases zq c with ⟨e,rfl⟩ | hf
  ·simp only[eK] at hn
   have D1:cg cs=true:=DI (by omega)
   cases off with
   | zero=>
    simp only[List.getElem?_cons_zero,Option.some.injEq,CT.sl.injEq] at h
    subst h
    simp only[aN] at hc
    obtain⟨t,DP,rows,ds',v,eo,m1,Om,rfl,rfl,rfl,h4,h5,h6,rfl⟩:=hc
    obtain⟨rfl,rfl,_⟩:=aN.toFlat _ _ _ _ _ D1 h6
    have fm:v.oneCell'=true:=by
     obtain⟨vals,fps,g1,_⟩:=h5
     exact g1.one
    refine⟨t,v,rows,rfl,rfl,rfl,h4,by simpa using h5, ?_⟩
    simp only[aN]
    exact⟨t,[],rows,ds',v,eo,[],[],rfl,rfl,rfl,h4,⟨rfl,fm,rfl⟩,aN.amx D1 h6,rfl⟩
   | succ k=>exact (flat_get D1 (by simpa using h)).elim
  ·cases off with
   | zero=>
    simp only[List.getElem?_cons_zero,Option.some.injEq] at h
    subst h
    simp [cg] at hf
   | succ k=>
    rw[aN.flat hf] at hc
    obtain⟨d,ds',v,eo,rfl,rfl,h3,h4⟩:=hc
    rw[DH hf] at hn
    obtain⟨t1,v1,rws,rfl,k1,k2,k3,k4,k5⟩:=aN.out cs k e' _ _ _ _ (by simpa using h) hn h4
    refine⟨t1,v1,rws,rfl,by simpa using k1,by simpa using k2,k3,k4, ?_⟩
    rw[aN.flat hf]
    exact⟨d,ds',v,eo,rfl,rfl,h3,k5⟩
theorem aov {c:CT} {cs:List CT} (hc:cg [c]=true):D0 (c::cs)=D0 cs+1:=by
 cases c with
 | sl e=>simp [cg] at hc
 | _=>rfl
theorem aN.back {v:Value} {rws:List (List DC)} {m1:List Nat} :∀(e:List CT) (e':List CT) (t1:TypeId) (r:List DC) (us:List Value) (m:List Nat),e[D0 e]? =some (.sl e')→eK e=1→aN w (some v) e [t1] r us m→
  SlH w none t1 e' rws v m1→aN w none e [t1] (aD r (D0 e) [.sl rws]) us m1
 | [],_,_,_,_,_,h,_,_,_=>by simp [D0] at h
 | c::cs,e',t1,_,_,_,h,hn,hc,hs=>by
  rcases zq c with ⟨e,rfl⟩ | hf
  ·simp only[eK] at hn
   have D1:cg cs=true:=DI (by omega)
   simp only[D0,List.getElem?_cons_zero,Option.some.injEq,CT.sl.injEq] at h
   subst h
   simp only[aN] at hc
   obtain⟨t,DP,rows,ds',v',eo,m1',Om,h1,rfl,rfl,h4,⟨rfl,fm,rfl⟩,h6,rfl⟩:=hc
   simp only[List.cons.injEq] at h1
   obtain⟨rfl,rfl⟩:=h1
   obtain⟨_,rfl,_⟩:=aN.toFlat _ _ _ _ _ D1 h6
   simp only[D0,aD,aN]
   exact⟨t1,[],rws,ds',v',eo,m1,[],rfl,by simp,rfl,h4,hs,aN.amx D1 h6,by simp⟩
  ·rw[aov hf] at h ⊢
   rw[aN.flat hf] at hc ⊢
   obtain⟨d,ds',v',eo,rfl,rfl,h3,h4⟩:=hc
   rw[DH hf] at hn
   refine⟨d,aD ds' (D0 cs) [.sl rws],v',eo, ?_,rfl,h3,aN.back cs e' t1 _ _ _ (by simpa using h) hn h4 hs⟩
   have e1:D0 cs+1+([DC.sl rws]:List DC).length=(D0 cs+([DC.sl rws]:List DC).length)+1:=by omega
   simp only[aD,e1,List.take_succ_cons,List.drop_succ_cons,List.cons_append]
theorem amy {α:Type} (l nu:List α) (p j:Nat) (h:p+nu.length≤l.length):(l.take p++(nu++l.drop (p+nu.length)))[j]? =if j<p then l[j]? else if j<p+nu.length then nu[j - p]? else l[j]? :=by
 have ht:(l.take p).length=p:=by simp;omega
 split
 ·rename_i hj
  rw[List.getElem?_append_left (by omega),List.getElem?_take,if_pos hj]
 ·rename_i hj
  rw[List.getElem?_append_right (by omega),ht]
  split
  ·rw[List.getElem?_append_left (by omega)]
  ·rw[List.getElem?_append_right (by omega),List.getElem?_drop]
   congr 1
   omega
theorem aqt {α:Type} (vals nu:List α) (i off el:Nat) (ai3:off+nu.length≤el) (hl:i*el+el≤vals.length):
  ((vals.take (i*el+off)++(nu++vals.drop (i*el+off+nu.length))).drop (i*el)).take el=((vals.drop (i*el)).take el).take off++(nu++((vals.drop (i*el)).take el).drop (off+nu.length)):=by
 apply List.ext_getElem?
 intro j
 rw[amy _ _ _ _ (by simp;omega),List.getElem?_take,List.getElem?_drop,amy _ _ _ _ (by omega)]
 simp only[List.getElem?_take,List.getElem?_drop]
 by_cases hj:j<el
 ·rw[if_pos hj,if_pos hj]
  by_cases h1:j<off
  ·rw[if_pos (by omega),if_pos h1]
  ·rw[if_neg (by omega),if_neg h1]
   by_cases h2:j<off+nu.length
   ·rw[if_pos (by omega),if_pos h2]
    congr 1
    omega
   ·rw[if_neg (by omega),if_neg h2]
 ·rw[if_neg hj,if_neg hj,if_neg (by omega),if_neg (by omega)]
theorem apB {α:Type} (vals nu:List α) (i off el k:Nat) (ai3:off+nu.length≤el) (hl:i*el+el≤vals.length) (hk:k≠i):
  ((vals.take (i*el+off)++(nu++vals.drop (i*el+off+nu.length))).drop (k*el)).take el=(vals.drop (k*el)).take el:=by
 apply List.ext_getElem?
 intro j
 rw[List.getElem?_take,List.getElem?_drop,amy _ _ _ _ (by omega),List.getElem?_take,List.getElem?_drop]
 by_cases hj:j<el
 ·rw[if_pos hj,if_pos hj]
  rcases Nat.lt_or_ge k i with hlt | hge
  ·have:k*el+el≤i*el:=by rw[←Nat.succ_mul];exact Nat.mul_le_mul_right _ hlt
   rw[if_pos (by omega)]
  ·have:i*el+el≤k*el:=by rw[←Nat.succ_mul];exact Nat.mul_le_mul_right _ (by omega)
   rw[if_neg (by omega),if_neg (by omega)]
 ·rw[if_neg hj,if_neg hj]
theorem kV.set {w w':World} {e:List CT} {ts:List TypeId} {rows:List (List DC)} {vals:List Value} {hv hv':Nat→Option Value} {d_:List (List Nat)} (h:kV w e ts rows vals hv d_) (hs:w.heap.size≤w'.heap.size) (hl:vals.length=rows.length*e.length)
  {i off:Nat} (hi:i<rows.length) {nu:List Value} (ai3:off+nu.length≤e.length) {r:List DC} {m:List Nat} (hm:∀j,j≠i→∀m',d_[j]? =some m'→∀b∈m',w'.heap[b]? =w.heap[b]?)
  (hh:∀j,j≠i→hv' j=hv j) (hr:aN w' (hv' i) e ts r (((vals.drop (i*e.length)).take e.length).take off++(nu++((vals.drop (i*e.length)).take e.length).drop (off+nu.length))) m):
  kV w' e ts (rows.set i r) (vals.take (i*e.length+off)++(nu++vals.drop (i*e.length+off+nu.length))) hv' (d_.set i m):=by
 have hil:i*e.length+e.length≤vals.length:=by rw[hl,←Nat.succ_mul];exact Nat.mul_le_mul_right _ hi
 refine⟨by simp [h.1],fun k r' m' hk hkm=> ?_⟩
 by_cases hki:k=i
 ·subst hki
  rw[List.getElem?_set_self hi,Option.some.injEq] at hk
  rw[List.getElem?_set_self (by rw[h.1];exact hi),Option.some.injEq] at hkm
  subst hk hkm
  rw[aqt _ _ _ _ _ ai3 hil]
  exact hr
 ·rw[List.getElem?_set_ne (Ne.symm hki)] at hk hkm
  rw[apB _ _ _ _ _ _ ai3 hil hki,hh k hki]
  exact aN.mono hs _ _ _ _ _ (h.2 k r' m' hk hkm) (hm k hki m' hkm)
end
end Go.Proofs.YthpmalpdnnbkgaaGreat.Vm
set_option linter.unusedVariables false
set_option linter.unusedSimpArgs false
namespace Go.Proofs.YthpmalpdnnbkgaaGreat.Vm
def Env.Jn (β:Env) (id:Nat) (l:List Nat):Env:=⟨β.Bn,β.val,β.Ol,dB β.nb id l⟩
def Env.MA (β:Env) (id:Nat) (v:Value) (l:List Nat):Env:=⟨β.Bn,dB β.val id v,β.Ol,dB β.nb id l⟩
section
variable {P:Program} {Γ:Ctx} {w0:World} {S:Own} {st:St} {o:Oper} {e:u4} {a:Act} {w w':World}
variable {f:Nat→SV} {h:Nat→Option bP} {β:Env} {φ:Nat→List Nat} {tm:Array Value}
theorem Core.ao9 (hc:Core w0 S f h β φ tm w) {id:Nat} {ob:bP} {t:TypeId} {ct:List CT} {ts:List TypeId} {rows:List (List DC)} {hl:Option (Nat×Nat)} {nb':List Nat} {G:Nat→Prop} {h':Nat→Option bP}
  (Bo:h id=some ob) (hG:∀k,G k→k≠id) (hh:h' id=some (.deep t ct ts rows hl)) (hh2:∀j,j≠id→∀x,h' j=some x→h j=some x∧¬G j)
  (hs:w.heap.size≤w'.heap.size) (hw:∀b,b<w.heap.size→b ∉ (β.val id).ownBlock.toList→w'.heap[b]? =w.heap[b]?)
  (eO:∀b∈(β.val id).ownBlock.toList,b∈cb β id ob)
  (hnb:∀b∈nb',b∈cb β id ob∨∃k x,G k∧h k=some x∧b∈cb β k x)
  (PU:Mt w' (Av h' (β.Jn id nb')) (β.Jn id nb') id (.deep t ct ts rows hl) ((β.val id).ownBlock.toList++nb')) (hnd:((β.val id).ownBlock.toList++nb').Nodup):
  Core w0 S f h' (β.Jn id nb') (dB φ id ((β.val id).ownBlock.toList++nb')) tm w':=by
 have PW:∀j oj,j≠id→cb (β.Jn id nb') j oj=cb β j oj:=by
  intro j oj hj
  cases oj<;>simp [cb,Env.Jn,dB,hj]
 have ao_:∀b∈(β.val id).ownBlock.toList++nb',b∈cb β id ob∨∃k x,G k∧h k=some x∧b∈cb β k x:=by
  intro b hb
  rcases List.mem_append.1 hb with hb | hb
  ·exact .inl (eO b hb)
  ·exact hnb b hb
 have jj:∀b∈(β.val id).ownBlock.toList++nb',((w0.heap.size≤b∨S b)∧b<w.heap.size)∧Av h β b∧∀j oj,j≠id→h j=some oj→¬G j→b ∉ φ j:=by
  intro b hb
  rcases ao_ b hb with h1 | ⟨k,x,hk,hx,h1⟩
  ·have h2:=bF (hc.dA id ob Bo) b h1
   exact⟨(hc.fresh id ob Bo).2 b h2,.inl ⟨id,ob,Bo,h1⟩,fun j oj hj Yh _=>hc.sep id j ob oj (Ne.symm hj) Bo Yh b h2⟩
  ·have h2:=bF (hc.dA k x hx) b h1
   exact⟨(hc.fresh k x hx).2 b h2,.inl ⟨k,x,hx,h1⟩,fun j oj hj Yh hg=>hc.sep k j x oj (fun e=>hg (e ▸ hk)) hx Yh b h2⟩
 refine hc.aiU (fun _=>False) hs (fun b hb hn=>hw b hb (fun hx=>hn (.inl ⟨id,ob,Bo,eO b hx⟩))) ?_ (fun _ _ _ h=>h) (fun _ _=>⟨rfl,rfl⟩) ?_ ?_
 ·rintro b (⟨j,oj,hj,ie⟩ | hb)
  case inr=>exact .inl (.inr hb)
  by_cases sR:j=id
  ·subst sR
   rw[hh,Option.some.injEq] at hj
   subst hj
   refine .inl (jj b ?_).2.1
   simpa [cb,Env.Jn,dB] using ie
  ·rw[PW j oj sR] at ie
   exact .inl (.inl ⟨j,oj,(hh2 j sR oj hj).1,ie⟩)
 ·intro j oj hj
  by_cases sR:j=id
  ·subst sR
   rw[hh,Option.some.injEq] at hj
   subst hj
   refine .inr ⟨by simpa [dB] using PU,by simpa [dB] using hnd,fun b hb=> ?_⟩
   have:=(jj b (by simpa [dB] using hb)).1
   exact⟨this.1,by omega⟩
  ·have h1:=(hh2 j sR oj hj).1
   refine .inl ⟨fun h=>h,h1,by simp [Env.Jn,dB,sR],by simp [dB,sR],fun _ _ h=>h,fun b hb=> ?_⟩
   have Jt:=bF (hc.dA j oj h1) b hb
   exact hw b ((hc.fresh j oj h1).2 b Jt).2 (fun hx=>hc.sep id j ob oj (Ne.symm sR) Bo h1 b (bF (hc.dA id ob Bo) b (eO b hx)) Jt)
 ·intro i j oi oj sV hi hj b hb
  by_cases hii:i=id
  ·subst hii
   have Jj:j≠i:=Ne.symm sV
   simp only[dB,if_true] at hb
   simp only[dB,Jj,if_false]
   obtain⟨h1,h2⟩:=hh2 j Jj oj hj
   exact (jj b hb).2.2 j oj Jj h1 h2
  ·simp only[dB,hii,if_false] at hb
   obtain⟨h1,h2⟩:=hh2 i hii oi hi
   by_cases sR:j=id
   ·subst sR
    simp only[dB,if_true]
    exact fun hb'=>(jj b hb').2.2 i oi hii h1 h2 hb
   ·simp only[dB,sR,if_false]
    exact hc.sep i j oi oj sV h1 (hh2 j sR oj hj).1 b hb
theorem aow (hR:Rel w0 S st a w) (hd:∀d,o.dst=some d→eD st.n d) {c:Call} {x:Operand} {t:TypeId} (ho:o.op= .call c) (hb:c.callee= .builtin .len)
  (hx:c.args= #[x]) (ht:c.argTypes= #[t]) {sx:SV} (h1:(oq x).val st.get st.obj=some sx) (he:(asj P t sx).val st.get st.obj=some e):Good P w0 S st o e a w:=by
 unfold asj at he
 split at he
 ·rename_i id
  simp only[M.eB,Option.bind_eq_some_iff] at he
  obtain⟨ob,dT,he⟩:=he
  split at he
  ·rename_i t' ct ts r hl
   split at he
   ·rename_i et hu
    simp only[M.ax,Option.some.injEq] at he
    subst he
    refine cl hR hd rfl rfl fun β φ hc=> ?_
    have hv:=hc.ev h1
    simp only[bX] at hv
    obtain⟨vals,d_,eO,_⟩:=hc.dA id _ dT
    have key:∃q cap,β.val id= .slice q r.length cap∧r.length≤maxLen:=by
     rcases eO.2 with ⟨hv',h0,_⟩ | ⟨g,cap,cur,hv',_,hcc,hm,_⟩
     ·exact⟨none,0,by rw[hv',h0],by omega⟩
     ·exact⟨_,cap,hv',by omega⟩
    obtain⟨q,cap,hq,hm⟩:=key
    refine⟨.int .i64 r.length, ?_,by unfold bX;exact⟨rfl,amq hm⟩⟩
    simp [execOp,ho,resolve,hb,hx,ht,invoke,builtin,hv.1,hq,Builtin.len_,run_underlying hu,goInt]
   ·simp at he
  ·refine alB hR hd ho hb hx ht h1 ?_
   exact he
 ·exact alB hR hd ho hb hx ht h1 he
theorem abl (hR:Rel w0 S st a w) (hd:∀d,o.dst=some d→eD st.n d) {t:TypeId} {x i:Operand} (ho:o.op= .indexAddr t x i) {sx si:SV}
  (h1:(oq x).val st.get st.obj=some sx) (h2:(oq i).val st.get st.obj=some si) (he:(UP P t sx si).val st.get st.obj=some e) (hok:e.ok=true):Good P w0 S st o e a w:=by
 unfold UP at he
 split at he
 ·rename_i id
  simp only[M.eB,Option.bind_eq_some_iff] at he
  obtain⟨ob,dT,he⟩:=he
  split at he
  ·rename_i t' ct ts r hl
   split at he
   ·rename_i et k n hu
    cases hz:eA P et ct.length
    ·simp [hz] at he
    simp only[hz,cond_true,M.ax,Option.some.injEq] at he
    subst he
    simp only[Bool.and_eq_true,decide_eq_true_eq] at hok
    obtain⟨i',hi,hsz⟩:=ep hz
    refine cl hR hd rfl rfl fun β φ hc=> ?_
    have hv:=hc.ev h1
    have hi2:=hc.ev h2
    simp only[bX] at hv hi2
    obtain⟨vals,d_,eO,_⟩:=hc.dA id _ dT
    rcases eO.2 with ⟨_,h0,_⟩ | ⟨g,cap,cur,hv',_⟩
    ·omega
    ·refine⟨.pointer (some ⟨g,0+n.toNat*i'.size,none⟩), ?_, ?_⟩
     ·simp [execOp,ho,hv.1,hv',hi2.1,Instr.indexAt,asIntOf,run_underlying hu,hok.1,hok.2,sizeOf,typeInfo,hi,sQ]
     ·simp only[bX]
      exact⟨g,by rw[hv'];rfl,by rw[hsz];simp⟩
   ·simp at he
  ·exact On hR hd ho h1 h2 he hok
 ·exact On hR hd ho h1 h2 he hok
theorem aqu (hc:Core w0 S f h β φ tm w) {id:Nat} {t:TypeId} {ct:List CT} {ts:List TypeId} {rows:List (List DC)} {hl:Option (Nat×Nat)} (dT:h id=some (.deep t ct ts rows hl)) {i:Nat} (hi:i<rows.length) {g:Nat} (hg:(β.val id).ownBlock=some g):
  ∃(us:List Value) (m:List Nat),aN w (PN β hl i) ct ts (rows.getD i []) us m∧us.length=ct.length∧∀j u,us[j]? =some u→w.cell? ⟨g,i*ct.length+j,none⟩=some u:=by
 obtain⟨vals,d_,eO,u_,_,_⟩:=hc.dA id _ dT
 have hf:i<d_.length:=by rw[u_.1];exact hi
 have GS:=u_.2 i (rows.getD i []) d_[i] (tV hi) (by simp)
 exact⟨_,_,GS,(aN.length _ _ _ _ _ GS).1,fun j u hj=>eO.cell hg (Lq hj)⟩
theorem aN.get {hv:Option Value} :∀(cs:List CT) (ts:List TypeId) (r:List DC) (us:List Value) (m:List Nat) (k:Nat) (c:CT),aN w hv cs ts r us m→cs[k]? =some c→cg [c]=true→
  ∃v,us[k]? =some v∧RdC w c (r.getD k default) v []
 | [],_,_,_,_,_,_,_,hk,_=>by simp at hk
 | c0::cs,_,_,_,_,k,c,h,hk,hf=>by
  rcases zq c0 with ⟨e,rfl⟩ | hc
  ·simp only[aN] at h
   obtain⟨t,DP,rows,ds',v,eo,m1,Om,rfl,rfl,rfl,_,_,h6,rfl⟩:=h
   cases k with
   | zero=>
    simp only[List.getElem?_cons_zero,Option.some.injEq] at hk
    subst hk
    simp [cg] at hf
   | succ k=>
    obtain⟨v',h1,h2⟩:=aN.get cs _ _ _ _ k c h6 (by simpa using hk) hf
    exact⟨v',by simpa using h1,by simpa using h2⟩
  ·rw[aN.flat hc] at h
   obtain⟨d,ds',v,eo,rfl,rfl,h3,h4⟩:=h
   cases k with
   | zero=>
    simp only[List.getElem?_cons_zero,Option.some.injEq] at hk
    subst hk
    exact⟨v,by simp,by simpa using h3⟩
   | succ k=>
    obtain⟨v',h1,h2⟩:=aN.get cs _ _ _ _ k c h4 (by simpa using hk) hf
    exact⟨v',by simpa using h1,by simpa using h2⟩
theorem aN.lE {hv:Option Value} {av:Nat→Prop} {cs:List CT} {ts:List TypeId} {r:List DC} {us:List Value} {m:List Nat} (h:aN w hv cs ts r us m):
  ∀(n k:Nat),k+n≤cs.length→cg ((cs.drop k).take n)=true→∃vs:List Value,vs.length=n∧(∀j v,vs[j]? =some v→us[k+j]? =some v)∧bt w av β (kU ((cs.drop k).take n) r k) vs∧∀x∈vs,x.oneCell'=true
 | 0,k,_,_=>⟨[],rfl,by simp,by simp [kU,bt],by simp⟩
 | n+1,k,hk,hf=>by
  have hlt:k<cs.length:=by omega
  have atf:(cs.drop k).take (n+1)=cs[k]::(cs.drop (k+1)).take n:=by
   rw[List.drop_eq_getElem_cons hlt,List.take_succ_cons]
  rw[atf,Jm,Bool.and_eq_true] at hf
  obtain⟨v,e1,e2⟩:=aN.get cs ts r us m k cs[k] h (by simp) hf.1
  obtain⟨vs,l1,l2,l3,l4⟩:=aN.lE h n (k+1) (by omega) hf.2
  refine⟨v::vs,by simp [l1], ?_, ?_, ?_⟩
  ·intro j u hj
   cases j with
   | zero=>simp at hj;subst hj;simpa using e1
   | succ j=>have:=l2 j u (by simpa using hj);rw[←this];congr 1;omega
  ·rw[atf]
   simp only[kU,bt]
   exact⟨v,vs,rfl,Hz e2 (by simp),l3⟩
  ·intro x hx
   rcases List.mem_cons.1 hx with rfl | hx
   ·exact e2.one
   ·exact l4 x hx
theorem anD (hR:Rel w0 S st a w) (hd:∀d,o.dst=some d→eD st.n d) {t:TypeId} {x:Operand} (ho:o.op= .load t x) {id i z off:Nat} {t':TypeId} {ct:List CT} {ts:List TypeId} {rows:List (List DC)} {hl:Option (Nat×Nat)}
  (h1:(oq x).val st.get st.obj=some (.EC id i z off)) (dT:st.obj id=some (.deep t' ct ts rows hl)) (he:(apX P t i z off ct rows).val st.get st.obj=some e) (hok:e.ok=true):Good P w0 S st o e a w:=by
 unfold apX at he
 cases hz:Nat.beq z ct.length
 ·simp [hz] at he
 have hz':=Nat.eq_of_beq_eq_true hz
 simp only[hz,Bool.not_true,cond_false] at he
 split at he
 ·simp at he
 rename_i td hu
 have reads:∀β φ,Core w0 S st.get st.obj β φ a.tmps w→i<rows.length→∃g us m,a.eval x= .pointer (some ⟨g,i*ct.length+off,none⟩)∧aN w (PN β hl i) ct ts (rows.getD i []) us m∧
   ∀j u,us[j]? =some u→w.cell? ⟨g,i*ct.length+j,none⟩=some u:=by
  intro β φ hc hi
  have hx:=hc.ev h1
  simp only[bX] at hx
  obtain⟨g,hg,hv⟩:=hx
  obtain⟨us,m,k1,_,k3⟩:=aqu hc dT hi hg
  exact⟨g,us,m,by rw[hv,hz'],k1,k3⟩
 cases ha:isAggB P t
 ·simp only[ha,cond_false] at he
  split at he
  ·rename_i c hcc
   cases hf:cg [c]
   ·simp [hf] at he
   simp only[hf,cond_true,M.ax,Option.some.injEq] at he
   subst he
   have hi:i<rows.length:=by simpa using hok
   refine cl hR hd rfl rfl fun β φ hc=> ?_
   obtain⟨g,us,m,hv,hr,hcell⟩:=reads β φ hc hi
   obtain⟨v,e1,e2⟩:=aN.get _ _ _ _ _ _ _ hr hcc hf
   refine⟨v, ?_,Hz e2 (by simp)⟩
   simp [execOp,ho,hv,DE ha hu (hcell _ _ e1)]
  ·simp at he
 ·simp only[ha,cond_true] at he
  split at he
  ·rename_i j hj
   cases hz2:Nat.ble (off+j.size) ct.length && cg ((ct.drop off).take j.size)
   ·simp [hz2] at he
   simp only[hz2,cond_true,M.ax,Option.some.injEq] at he
   subst he
   simp only[Bool.and_eq_true] at hz2
   have hi:i<rows.length:=by simpa using hok
   have hle:=Nat.le_of_ble_eq_true hz2.1
   refine cl hR hd rfl rfl fun β φ hc=> ?_
   obtain⟨g,us,m,hv,hr,hcell⟩:=reads β φ hc hi
   obtain⟨vs,l1,l2,l3,l4⟩:=aN.lE (β:=β) (av:=Av st.obj β) hr j.size off hle hz2.2
   refine⟨.agg vs.toArray, ?_, ?_⟩
   ·have:∀k v,vs[k]? =some v→w.cell? ⟨g,(i*ct.length+off)+k,none⟩=some v:=fun k v hk=>by
     rw[Nat.add_assoc]
     exact hcell _ _ (l2 k v hk)
    simp [execOp,ho,hv,Jh ha hj l1 this]
   ·simp only[bX]
    exact⟨vs,rfl,l3,l4⟩
  ·simp at he
theorem amz {d_:List (List Nat)} {i:Nat} (hi:i<d_.length):∀b∈(d_.set i []).flatten,b∈d_.flatten:=by
 intro b hb
 rw[ma hi] at hb
 rw[gL hi]
 simp only[List.nil_append,List.mem_append] at hb ⊢
 rcases hb with hb | hb<;>simp [hb]
theorem aox (hR:Rel w0 S st a w) {d:Nat} (dL:o.dst=some d) (hd:eD st.n d) (lR:jr st d) {t:TypeId} {x:Operand} (ho:o.op= .load t x) {id i off:Nat} {t' t1:TypeId} {ct e':List CT} {rows:List (List DC)} {td:TypeDesc}
  (h1:(oq x).val st.get st.obj=some (.EC id i ct.length off)) (dT:st.obj id=some (.deep t' ct [t1] rows none)) (ai3:ct[off]? =some (.sl e')) (asC:eK ct=1) (ha:isAggB P t=false) (hu:P.underlying t=some td) (hi:i<rows.length)
  (Mv:e.sv= .own (bD d 0)) (XO:e.cw=none) (how:e.ow=[(bD d 0,some (.row t1 e' ((rows.getD i []).getD off default).asRows false true)),(id,some (.deep t' ct [t1] rows (some (i,bD d 0))))]):Good P w0 S st o e a w:=by
 obtain⟨β,φ,hc⟩:=hR.core
 have jj:bD d 0 / 64=d:=uX d 0 (by omega)
 generalize auB:bD d 0=nid at*
 have sV:id≠nid:=fun e=>(lR.obj id _ dT).1 (e ▸ jj)
 have hx:=hc.ev h1
 simp only[bX] at hx
 obtain⟨g,hg,hx⟩:=hx
 obtain⟨vals,d_,eO,u_,hnb,hφ⟩:=hc.dA id _ dT
 have him:i<d_.length:=by rw[u_.1];exact hi
 have GS:=u_.2 i (rows.getD i []) d_[i] (tV hi) (by simp)
 obtain⟨t1',v,rws,ht1,hv,hrv,D1,hsl,at0⟩:=aN.out ct off e' _ _ _ _ ai3 asC GS
 simp only[List.cons.injEq,and_true] at ht1
 subst ht1
 obtain⟨alD,aro,ho1,ho2,hmb⟩:=hsl
 have at1:((rows.getD i []).getD off default).asRows=rws:=by
  rw[List.getD_eq_getElem?_getD,hrv]
  rfl
 rw[at1] at how
 have hcell:w.cell? ⟨g,i*ct.length+off,none⟩=some v:=eO.cell hg (Lq hv)
 have arA:=(hc.fresh id _ dT).1
 rw[hφ] at arA
 have X1:∀b∈v.ownBlock.toList,b∈d_.flatten:=by
  intro b hb
  rw[gL him,hmb]
  simp [hb]
 have atg:∀b∈(β.val id).ownBlock.toList++d_.flatten,Av st.obj β b:=fun b hb=> .inl ⟨id,_,dT,by simpa [cb,hnb] using hb⟩
 have alG:∀b∈(β.val id).ownBlock.toList++d_.flatten,b∈φ id:=fun b hb=>by rw[hφ];exact hb
 have alH:∀b∈(β.val id).ownBlock.toList++(d_.set i []).flatten,b∈(β.val id).ownBlock.toList++d_.flatten:=by
  intro b hb
  rcases List.mem_append.1 hb with hb | hb
  ·exact List.mem_append_left _ hb
  ·exact List.mem_append_right _ (amz him b hb)
 have apa:∀b∈v.ownBlock.toList,b ∉ (β.val id).ownBlock.toList++(d_.set i []).flatten:=by
  intro b hb RG
  rw[gL him,List.nodup_append] at arA
  obtain⟨_,n2,n3⟩:=arA
  rw[List.nodup_append] at n2
  obtain⟨_,n4,n5⟩:=n2
  rw[List.nodup_append] at n4
  obtain⟨_,_,n6⟩:=n4
  rw[←hmb] at hb
  rcases List.mem_append.1 RG with RG | RG
  ·exact n3 b RG b (by simp [hb]) rfl
  ·rw[ma him] at RG
   simp only[List.nil_append,List.mem_append] at RG
   rcases RG with RG | RG
   ·exact n5 b RG b (by simp [hb]) rfl
   ·exact n6 b hb b RG rfl
 have aqv:((β.val id).ownBlock.toList++(d_.set i []).flatten).Nodup:=by
  refine List.Sublist.nodup ?_ arA
  refine (List.Sublist.refl _).append ?_
  rw[ma him,gL him]
  exact (List.Sublist.refl _).append ((List.nil_sublist _).append (List.Sublist.refl _))
 have hvn:v.ownBlock.toList.Nodup:=by cases v.ownBlock<;>simp
 let β':Env:=⟨β.Bn,dB β.val nid v,β.Ol,dB β.nb id (d_.set i []).flatten⟩
 have aqw:β'.val id=β.val id:=by simp [β',dB,sV]
 have anE:β'.val nid=v:=by simp [β',dB]
 have ath:β'.nb id=(d_.set i []).flatten:=by simp [β',dB]
 let h':Nat→Option bP:=dB (dB st.obj id (some (.deep t' ct [t1] rows (some (i,nid))))) nid (some (.row t1 e' rws false true))
 let φ':Nat→List Nat:=dB (dB φ id ((β.val id).ownBlock.toList++(d_.set i []).flatten)) nid v.ownBlock.toList
 have ati:Core w0 S st.get h' β' φ' a.tmps w:=by
  have e1:h' nid=some (.row t1 e' rws false true):=by simp [h',dB]
  have e2:h' id=some (.deep t' ct [t1] rows (some (i,nid))):=by simp [h',dB,sV]
  have e3:∀j,j≠nid→j≠id→h' j=st.obj j:=fun j h1 h2=>by simp [h',dB,h1,h2]
  have p1:φ' nid=v.ownBlock.toList:=by simp [φ',dB]
  have p2:φ' id=(β.val id).ownBlock.toList++(d_.set i []).flatten:=by simp [φ',dB,sV]
  have p3:∀j,j≠nid→j≠id→φ' j=φ j:=fun j h1 h2=>by simp [φ',dB,h1,h2]
  have PW:∀j oj,j≠nid→j≠id→cb β' j oj=cb β j oj:=by
   intro j oj h1 h2
   cases oj<;>simp [cb,β',dB,h1,h2]
  have at2:∀b,Av h' β' b→Av st.obj β b:=by
   rintro b (⟨j,oj,hj,ie⟩ | hb)
   case inr=>exact .inr hb
   by_cases hjn:j=nid
   ·subst hjn
    rw[e1,Option.some.injEq] at hj
    subst hj
    exact atg b (List.mem_append_right _ (X1 b (by simpa [cb,anE] using ie)))
   ·by_cases Jj:j=id
    ·subst Jj
     rw[e2,Option.some.injEq] at hj
     subst hj
     exact atg b (alH b (by simpa only[cb,aqw,ath] using ie))
    ·rw[e3 j hjn Jj] at hj
     rw[PW j oj hjn Jj] at ie
     exact .inl ⟨j,oj,hj,ie⟩
  have lC:=(hc.fresh id _ dT).2
  refine hc.aiU (fun j=>j=nid) (Nat.le_refl _) (fun _ _ _=>rfl) (fun b hb=> .inl (at2 b hb)) (fun k j hj e=>lR.slot k j hj (e ▸ jj)) (fun j hj=>⟨by simp [β',dB,hj],rfl⟩) ?_ ?_
  ·intro j oj hj
   by_cases hjn:j=nid
   ·subst hjn
    rw[e1,Option.some.injEq] at hj
    subst hj
    refine .inr ⟨?_,by rw[p1];exact hvn,fun b hb=> ?_⟩
    ·refine⟨alD,aro,by rw[anE];exact ho1,ho2, ?_, ?_⟩
     ·rw[ho2.ao1 D1]
      simp
     ·rw[p1,anE,ho2.ao1 D1]
      simp
    ·rw[p1] at hb
     exact lC b (alG b (List.mem_append_right _ (X1 b hb)))
   ·by_cases Jj:j=id
    ·subst Jj
     rw[e2,Option.some.injEq] at hj
     subst hj
     refine .inr ⟨?_,by rw[p2];exact aqv,fun b hb=> ?_⟩
     ·refine⟨vals,d_.set i [],by rw[aqw];exact eO,⟨by simp [u_.1],fun k r m hk hm=> ?_⟩,ath,by rw[p2,aqw]⟩
      by_cases hki:k=i
      ·subst hki
       rw[List.getElem?_set_self him,Option.some.injEq] at hm
       subst hm
       have hr':r=rows.getD k []:=by
        rw[tV (d:=[]) hi,Option.some.injEq] at hk
        exact hk.symm
       subst hr'
       simp only[PN,if_true]
       rw[anE]
       exact at0
      ·rw[List.getElem?_set_ne (Ne.symm hki)] at hm
       simp only[PN,hki,if_false]
       exact u_.2 k r m hk hm
     ·rw[p2] at hb
      exact lC b (alG b (alH b hb))
    ·rw[e3 j hjn Jj] at hj
     refine .inl ⟨hjn,hj,by simp [β',dB,Jj],p3 j hjn Jj,fun k hk e=>(lR.obj j oj hj).2 k hk (e ▸ jj),fun _ _=>rfl⟩
  ·have kinds:∀j oj,h' j=some oj→∀b∈φ' j,(j=nid∧b∈v.ownBlock.toList)∨(j=id∧b∈(β.val id).ownBlock.toList++(d_.set i []).flatten)∨(j≠nid∧j≠id∧st.obj j=some oj∧b∈φ j):=by
    intro j oj hj b hb
    by_cases hjn:j=nid
    ·subst hjn
     rw[p1] at hb
     exact .inl ⟨rfl,hb⟩
    ·by_cases Jj:j=id
     ·subst Jj
      rw[p2] at hb
      exact .inr (.inl ⟨rfl,hb⟩)
     ·rw[p3 j hjn Jj] at hb
      rw[e3 j hjn Jj] at hj
      exact .inr (.inr ⟨hjn,Jj,hj,hb⟩)
   intro j k oj ok hjk hj hk b hb hb'
   rcases kinds j oj hj b hb with ⟨rfl,x1⟩ | ⟨rfl,x1⟩ | ⟨x0,x00,x1,x2⟩<;>rcases kinds k ok hk b hb' with ⟨rfl,y1⟩ | ⟨rfl,y1⟩ | ⟨y0,y00,y1,y2⟩
   ·exact hjk rfl
   ·exact apa b x1 y1
   ·exact hc.sep id k _ ok (Ne.symm y00) dT y1 b (alG b (List.mem_append_right _ (X1 b x1))) y2
   ·exact apa b y1 x1
   ·exact hjk rfl
   ·exact hc.sep _ k _ ok (Ne.symm y00) dT y1 b (alG b (alH b x1)) y2
   ·exact hc.sep id j _ oj (Ne.symm x00) dT x1 b (alG b (List.mem_append_right _ (X1 b y1))) x2
   ·exact hc.sep _ j _ oj (Ne.symm x00) dT x1 b (alG b (alH b y1)) x2
   ·exact hc.sep j k oj ok hjk x1 y1 b x2 y2
 refine oe hR (fun d' h'=>by rw[dL] at h';injection h' with h';exact h' ▸ hd) (v:=v) (w':=w) ?_ hR.kept ⟨β',φ', ?_, ?_⟩
 ·simp [execOp,ho,hx,DE ha hu hcell]
 ·rw[how,XO]
  exact ati
 ·rw[Mv]
  unfold bX
  exact⟨anE.symm,ho1.one⟩
end
end Go.Proofs.YthpmalpdnnbkgaaGreat.Vm
set_option linter.unusedVariables false
set_option linter.unusedSimpArgs false
namespace Go.Proofs.YthpmalpdnnbkgaaGreat.Vm
section
variable {P:Program} {Γ:Ctx} {w0:World} {S:Own} {st:St} {o:Oper} {e:u4} {a:Act} {w w':World}
variable {f:Nat→SV} {h:Nat→Option bP} {β:Env} {φ:Nat→List Nat} {tm:Array Value}
theorem aN.arB {hv:Option Value} {pre part suf:List CT} {ts:List TypeId} {r ds:List DC} {us nu:List Value} {m:List Nat} (h:aN w hv (pre++(part++suf)) ts r us m) (hf:cg part=true) (hn:aN w hv part [] ds nu []):
  aN w hv (pre++(part++suf)) ts (aD r pre.length ds) (us.take pre.length++(nu++us.drop (pre.length+nu.length))) m:=by
 obtain⟨ts1,ts2,m1,m2,rfl,rfl,k1,k2⟩:=aN.split _ _ _ _ _ _ h
 obtain⟨ts3,ts4,m3,m4,rfl,rfl,k3,k4⟩:=aN.split _ _ _ _ _ _ k2
 obtain⟨rfl,rfl,_⟩:=aN.toFlat _ _ _ _ _ hf k3
 obtain⟨l1,l2⟩:=aN.length _ _ _ _ _ hn
 rw[List.drop_drop,List.drop_drop] at k4
 have:=aN.join _ _ _ _ _ _ _ _ _ _ k1 (aN.join _ _ _ _ _ _ _ _ _ _ hn k4)
 simpa only[aD,l1,l2] using this
theorem aN.arC {hv:Option Value} {pre part suf:List CT} {ts DP:List TypeId} {r ds:List DC} {us nu:List Value} {m m':List Nat} (h:aN w hv (pre++(part++suf)) ts r us m) (hf:eK part=eK (pre++(part++suf))) (hn:aN w none part DP ds nu m'):
  aN w none (pre++(part++suf)) DP (aD r pre.length ds) (us.take pre.length++(nu++us.drop (pre.length+nu.length))) m':=by
 rw[DJ,DJ] at hf
 have f1:cg pre=true:=DI (by omega)
 have f2:cg suf=true:=DI (by omega)
 obtain⟨ts1,ts2,m1,m2,rfl,rfl,k1,k2⟩:=aN.split _ _ _ _ _ _ h
 obtain⟨ts3,ts4,m3,m4,rfl,rfl,k3,k4⟩:=aN.split _ _ _ _ _ _ k2
 obtain⟨rfl,rfl,_⟩:=aN.toFlat _ _ _ _ _ f1 k1
 obtain⟨rfl,rfl,_⟩:=aN.toFlat _ _ _ _ _ f2 k4
 obtain⟨l1,l2⟩:=aN.length _ _ _ _ _ hn
 rw[List.drop_drop,List.drop_drop] at k4
 have:=aN.join _ _ _ _ _ _ _ _ _ _ (aN.amx (hv':=none) f1 k1) (aN.join _ _ _ _ _ _ _ _ _ _ hn (aN.amx (hv':=none) f2 k4))
 simpa only[aD,l1,l2,List.nil_append,List.append_nil] using this
theorem yL.cells:∀(cs:List CT) (ts:List TypeId) (ds:List DC) (us:List Value) (mb:List Nat),yL w cs ts ds us mb→aN w none cs ts ds us mb
 | [],_,_,_,_,h=>by simpa only[yL,aN] using h
 | .sl e::cs,_,_,_,_,h=>by
  simp only[yL] at h
  obtain⟨t,DP,rows,ds',v,eo,vals,fps,Om,rfl,rfl,rfl,h4,h5,h6,h7,rfl⟩:=h
  simp only[aN]
  exact⟨t,DP,rows,ds',v,eo,_,Om,rfl,rfl,rfl,h4,⟨vals,fps,h5,h6,rfl⟩,yL.cells cs _ _ _ _ h7,rfl⟩
 | .int k::cs,_,_,_,_,h=>by
  simp only[yL] at h
  obtain⟨d,ds',v,eo,rfl,rfl,h3,h4⟩:=h
  simp only[aN]
  exact⟨d,ds',v,eo,rfl,rfl,h3,yL.cells cs _ _ _ _ h4⟩
 | .bool::cs,_,_,_,_,h=>by
  simp only[yL] at h
  obtain⟨d,ds',v,eo,rfl,rfl,h3,h4⟩:=h
  simp only[aN]
  exact⟨d,ds',v,eo,rfl,rfl,h3,yL.cells cs _ _ _ _ h4⟩
 | .str::cs,_,_,_,_,h=>by
  simp only[yL] at h
  obtain⟨d,ds',v,eo,rfl,rfl,h3,h4⟩:=h
  simp only[aN]
  exact⟨d,ds',v,eo,rfl,rfl,h3,yL.cells cs _ _ _ _ h4⟩
theorem three (ct:List CT) (off n:Nat):ct.take off++((ct.drop off).take n++ct.drop (off+n))=ct:=by
 rw[←List.drop_drop,List.take_append_drop,List.take_append_drop]
theorem alI {t t':TypeId} {x y:Operand} (ho:o.op= .store t x y) {g i off:Nat} {ct:List CT} {n cap:Nat} {cur:Array Value} (hx:a.eval x= .pointer (some ⟨g,i*ct.length+off,none⟩)) {ti:TypeInfo} (hti:P.info? t=some ti) (fy:ti.size=(a.eval y).cells.size)
  (fm:∀v∈(a.eval y).cells.toList,v.oneCell'=true) (hh:w.heap[g]? =some (.cells cur t' (0,0))) (hi:i<n) (hnc:n≤cap) (hcs:cur.size=cap*ct.length) (hfit:off+(a.eval y).cells.toList.length≤ct.length):
  (execOp a.eval o).run P w= .ok .skip (w.setRow g (cur.toList.take (i*ct.length+off)++((a.eval y).cells.toList++cur.toList.drop (i*ct.length+off+(a.eval y).cells.toList.length))).toArray):=by
 have hlen:i*ct.length+ct.length≤n*ct.length:=by rw[←Nat.succ_mul];exact Nat.mul_le_mul_right _ hi
 have anm:n*ct.length≤cap*ct.length:=Nat.mul_le_mul_right _ hnc
 have fa:=ib P g (i*ct.length+off) t' (0,0) (a.eval y).cells.toList 0 cur w hh (fun j _ h=>by simp at h) (by omega) fm
 simp only[Nat.add_zero] at fa
 have:=PZ (P:=P) (t:=t) (b:=g) (off:=i*ct.length+off) (x:=a.eval y) hti fy fa
 simp [execOp,ho,hx,this]
theorem qC.written {t:TypeId} {el i off n:Nat} {v:Value} {vals nu:List Value} (eO:qC w t el false v n vals) {g:Nat} (hg:v.ownBlock=some g) (hi:i<n) (hfit:off+nu.length≤el) {cap:Nat} {cur:Array Value} (hh:w.heap[g]? =some (.cells cur t (0,0))) (hcs:cur.size=cap*el) (hnc:n≤cap):
  qC (w.setRow g (cur.toList.take (i*el+off)++(nu++cur.toList.drop (i*el+off+nu.length))).toArray) t el false v n (vals.take (i*el+off)++(nu++vals.drop (i*el+off+nu.length))):=by
 have hlen:i*el+el≤n*el:=by rw[←Nat.succ_mul];exact Nat.mul_le_mul_right _ hi
 have anm:n*el≤cap*el:=Nat.mul_le_mul_right _ hnc
 have X0:(cur.toList.take (i*el+off)++(nu++cur.toList.drop (i*el+off+nu.length))).length=cur.size:=by
  simp only[List.length_append,List.length_take,List.length_drop,Array.length_toList]
  omega
 rcases eO.2 with ⟨hv,h0,_⟩ | ⟨g',asy,auC,hv,hh',at3,hcm,ai4,htk⟩
 ·omega
 have hgg:g'=g:=by simpa [hv,Value.ownBlock] using hg
 subst hgg
 rw[hh] at hh'
 simp only[cond_false,Option.some.injEq,Obj.cells.injEq] at hh'
 obtain⟨rfl,_⟩:=hh'
 refine⟨?_,.inr ⟨g',asy,(cur.toList.take (i*el+off)++(nu++cur.toList.drop (i*el+off+nu.length))).toArray,hv, ?_,at3,hcm,by simpa [X0] using ai4, ?_⟩⟩
 ·have:=eO.1
  simp only[List.length_append,List.length_take,List.length_drop]
  omega
 ·rw[setRow_heap w _ _ _ _ _ hh]
  simp
 ·simp only
  rw[P_ _ _ _ _ (by omega) (by simp only[Array.length_toList];omega),htk]
theorem amA (hR:Rel w0 S st a w) (hd:∀d,o.dst=some d→eD st.n d) {t t':TypeId} {x y:Operand} (ho:o.op= .store t x y) {id i off:Nat} {sy:SV} {lE:List SV} {ct:List CT} {ts:List TypeId} {rows:List (List DC)} {hl:Option (Nat×Nat)} {r:List DC×HJ×Bool}
  (h1:(oq x).val st.get st.obj=some (.EC id i ct.length off)) (h2:(oq y).val st.get st.obj=some sy) (hcs:(dF sy).val st.get st.obj=some lE) (hsz:eA P t lE.length=true)
  (dT:st.obj id=some (.deep t' ct ts rows hl)) (hfit:off+lE.length≤ct.length) (hf:cg ((ct.drop off).take lE.length)=true) (hr:(ou ((ct.drop off).take lE.length) lE).val st.get st.obj=some r)
  (hi:i<rows.length) (XO:e.cw=none) (UY:e.sv= .undef) (how:e.ow=[(id,some (.deep t' ct ts (rows.set i (aD (rows.getD i []) off r.1)) hl))]):Good P w0 S st o e a w:=by
 obtain⟨ti,hti,fy⟩:=ep hsz
 obtain⟨β,φ,hc⟩:=hR.core
 have hx:=hc.ev h1
 simp only[bX] at hx
 obtain⟨g,hg,hx⟩:=hx
 obtain⟨Mv,fm⟩:=DF (hc.ev h2) hcs
 have S0:=bt.length _ _ Mv
 have ali:(a.eval y).cells.size=lE.length:=by simpa using S0
 obtain⟨fp,hrd,_,_,_⟩:=DG hc _ _ _ r Mv hr
 obtain⟨vals,d_,eO,u_,hnb,hφ⟩:=hc.dA id _ dT
 have abN:g∈cb β id (.deep t' ct ts rows hl):=by simp [cb,hg]
 rcases eO.2 with ⟨hv,h0,_⟩ | ⟨g',cap,cur,hv,hh,hnc,hcm,ai4,htk⟩
 ·omega
 have hgg:g'=g:=by simpa [hv,Value.ownBlock] using hg
 subst hgg
 simp only[cond_false] at hh
 have hul:(a.eval y).cells.toList.length=lE.length:=by simpa using ali
 have fa:=alI (P:=P) ho hx hti (fy.trans ali.symm) fm hh hi hnc ai4 (by rw[hul];exact hfit)
 have hw':=eO.written (off:=off) (nu:=(a.eval y).cells.toList) hg hi (by rw[hul];exact hfit) hh ai4 hnc
 generalize (a.eval y).cells.toList=nu at*
 rw[←hul] at hfit hf hrd hr
 have him:i<d_.length:=by rw[u_.1];exact hi
 have GS:=u_.2 i (rows.getD i []) d_[i] (tV hi) (by simp)
 have hl1:(ct.take off).length=off:=by simp;omega
 have hl3:((ct.drop off).take nu.length).length=nu.length:=by simp;omega
 have jj:=aN.arB (pre:=ct.take off) (part:=(ct.drop off).take nu.length) (suf:=ct.drop (off+nu.length)) (by rw[three];exact GS) hf (aN.aou _ _ _ _ hf hrd hl3.symm)
 rw[three,hl1] at jj
 have lC:=hc.fresh id _ dT
 have hnd:=lC.1
 rw[hφ] at hnd
 have hng:∀b∈d_.flatten,b≠g':=by
  intro b hb e
  subst e
  rw[List.nodup_append] at hnd
  exact hnd.2.2 b (by simp [hg]) b hb rfl
 have abm:∀j m',d_[j]? =some m'→∀b∈m',b∈d_.flatten:=fun j m' hj b hb=>List.mem_flatten.2 ⟨m',List.mem_of_getElem? hj,hb⟩
 have hmi:d_.set i d_[i]=d_:=List.set_getElem_self ..
 have abg:=u_.set (w':=w.setRow g' (cur.toList.take (i*ct.length+off)++(nu++cur.toList.drop (i*ct.length+off+nu.length))).toArray) (hv':=PN β hl) (by simp) eO.1 hi hfit
  (fun j _ m' hj b hb=>setRow_other w g' b _ (hng b (abm j m' hj b hb))) (fun _ _=>rfl)
  (aN.mono (by simp) _ _ _ _ _ jj (fun b hb=>setRow_other w g' b _ (hng b (abm i d_[i] (by simp) b hb))))
 rw[hmi] at abg
 have alE:∀b∈cb β id (.deep t' ct ts (rows.set i (aD (rows.getD i []) off r.1)) hl),b∈cb β id (.deep t' ct ts rows hl):=fun b hb=>hb
 refine Qu hR hd fa (hR.kept.setRow (lC.2 g' (bF (hc.dA id _ dT) g' abN)).1 _) ⟨β,dB φ id ((β.val id).ownBlock.toList++d_.flatten), ?_,by rw[UY];simp [bX]⟩
 rw[how,XO]
 show Core w0 S st.get (dB st.obj id (some (.deep t' ct ts (rows.set i (aD (rows.getD i []) off r.1)) hl))) _ _ _ _
 refine hc.rewrite dT abN alE ?_ hnd ?_
 ·exact⟨_,d_,by simpa using hw',abg,hnb,rfl⟩
 ·intro b hb
  have hb':b∈φ id:=by rw[hφ];exact hb
  exact⟨lC.2 b hb',fun j oj hj Yh=>hc.sep id j _ _ (Ne.symm hj) dT Yh b hb'⟩
theorem amB:∀(U:List MU) (h:Nat→Option bP) (j:Nat),fo (Je U) h j=if j∈jH U then none else h j
 | [],h,j=>by simp [Je,jH,fo]
 | x::l,h,j=>by
  have ih:=amB l h j
  cases x<;>simp only[Je,jH,fo,dB]<;>first | exact ih | (by_cases hj:j=_<;>simp [hj,ih]<;>done) | skip
  all_goals
   simp only[List.mem_cons,ih]
   split<;>rename_i hj
   ·simp [hj]
   ·simp [hj]
theorem amC (hR:Rel w0 S st a w) (hd:∀d,o.dst=some d→eD st.n d) {t t':TypeId} {x y:Operand} (ho:o.op= .store t x y) {id i off:Nat} {sy:SV} {lE:List SV} {ct:List CT} {ts:List TypeId} {rows:List (List DC)} {hl:Option (Nat×Nat)} {r:List DC×List MU}
  (h1:(oq x).val st.get st.obj=some (.EC id i ct.length off)) (h2:(oq y).val st.get st.obj=some sy) (hcs:(dF sy).val st.get st.obj=some lE) (hsz:eA P t lE.length=true)
  (dT:st.obj id=some (.deep t' ct ts rows hl)) (hfit:off+lE.length≤ct.length) (hf:eK ((ct.drop off).take lE.length)=eK ct) (hr:(ec ((ct.drop off).take lE.length) ts lE).val st.get st.obj=some r)
  (hun:wQ (id::jH r.2)=true) (hi:i<rows.length) (atj:an_ hl i=true) (XO:e.cw=none) (UY:e.sv= .undef) (how:e.ow=(id,some (.deep t' ct ts (rows.set i (aD (rows.getD i []) off r.1)) none))::Je r.2):Good P w0 S st o e a w:=by
 obtain⟨ti,hti,fy⟩:=ep hsz
 obtain⟨β,φ,hc⟩:=hR.core
 have hx:=hc.ev h1
 simp only[bX] at hx
 obtain⟨g,hg,hx⟩:=hx
 obtain⟨Mv,fm⟩:=DF (hc.ev h2) hcs
 have S0:=bt.length _ _ Mv
 have ali:(a.eval y).cells.size=lE.length:=by simpa using S0
 obtain⟨hra,hmu⟩:=wT hc _ _ _ _ r Mv hr
 have atk:=yL.cells _ _ _ _ _ hra
 obtain⟨aoq,at4⟩:=F2 hun
 have hmn:=Jl hc hmu at4
 have hmt:∀b∈r.2.flatMap (d7 β),∃k∈jH r.2,∃ob,st.obj k=some ob∧b∈cb β k ob:=EJ hmu
 obtain⟨vals,d_,eO,u_,hnb,hφ⟩:=hc.dA id _ dT
 have abN:g∈cb β id (.deep t' ct ts rows hl):=by simp [cb,hg]
 rcases eO.2 with ⟨hv,h0,_⟩ | ⟨g',cap,cur,hv,hh,hnc,hcm,ai4,htk⟩
 ·omega
 have hgg:g'=g:=by simpa [hv,Value.ownBlock] using hg
 subst hgg
 simp only[cond_false] at hh
 have hul:(a.eval y).cells.toList.length=lE.length:=by simpa using ali
 have fa:=alI (P:=P) ho hx hti (fy.trans ali.symm) fm hh hi hnc ai4 (by rw[hul];exact hfit)
 have hw':=eO.written (off:=off) (nu:=(a.eval y).cells.toList) hg hi (by rw[hul];exact hfit) hh ai4 hnc
 generalize (a.eval y).cells.toList=nu at*
 rw[←hul] at hfit hf atk hr
 have him:i<d_.length:=by rw[u_.1];exact hi
 have GS:=u_.2 i (rows.getD i []) d_[i] (tV hi) (by simp)
 have hl1:(ct.take off).length=off:=by simp;omega
 have jj:=aN.arC (pre:=ct.take off) (part:=(ct.drop off).take nu.length) (suf:=ct.drop (off+nu.length)) (by rw[three];exact GS) (by rw[three];exact hf) atk
 rw[three,hl1] at jj
 have lC:=hc.fresh id _ dT
 have hnd:=lC.1
 rw[hφ] at hnd
 have ams:g'∈φ id:=bF (hc.dA id _ dT) g' abN
 have hng:∀b∈d_.flatten,b≠g':=by
  intro b hb e
  subst e
  rw[List.nodup_append] at hnd
  exact hnd.2.2 b (by simp [hg]) b hb rfl
 have arD:∀b∈r.2.flatMap (d7 β),b ∉ φ id:=by
  intro b hb RG
  obtain⟨k,hk,ob,atl,hbk⟩:=hmt b hb
  exact hc.sep k id ob _ (fun e=>aoq (e ▸ hk)) atl dT b (bF (hc.dA k ob atl) b hbk) RG
 have at5:∀b∈r.2.flatMap (d7 β),b≠g':=fun b hb e=>arD b hb (e ▸ ams)
 have abm:∀j m',d_[j]? =some m'→∀b∈m',b∈d_.flatten:=fun j m' hj b hb=>List.mem_flatten.2 ⟨m',List.mem_of_getElem? hj,hb⟩
 have at6:∀j,j≠i→(none:Option Value)=PN β hl j:=by
  intro j hj
  cases hl with
  | none=>rfl
  | some q=>
   obtain⟨k,nid⟩:=q
   have:=Nat.eq_of_beq_eq_true atj
   subst this
   simp [PN,hj]
 have abg:=u_.set (w':=w.setRow g' (cur.toList.take (i*ct.length+off)++(nu++cur.toList.drop (i*ct.length+off+nu.length))).toArray) (hv':=fun _=>none) (by simp) eO.1 hi hfit
  (fun j _ m' hj b hb=>setRow_other w g' b _ (hng b (abm j m' hj b hb))) at6
  (aN.mono (by simp) _ _ _ _ _ jj (fun b hb=>setRow_other w g' b _ (at5 b hb)))
 have aqv:((β.val id).ownBlock.toList++(d_.set i (r.2.flatMap (d7 β))).flatten).Nodup:=by
  rw[ma him]
  have h3:=hnd
  rw[gL him] at h3
  have h4:=M8 (A:=(β.val id).ownBlock.toList++(d_.take i).flatten) (p1:=[]) (p2:=d_[i]) (p3:=[]) (B:=(d_.drop (i+1)).flatten) (n:=r.2.flatMap (d7 β)) (by simpa using h3) hmn
   (fun b hb RG=>arD b hb (by rw[hφ,gL him];simpa using RG))
  simpa using h4
 refine Qu hR hd fa (hR.kept.setRow (lC.2 g' ams).1 _) ⟨β.Jn id (d_.set i (r.2.flatMap (d7 β))).flatten,dB φ id ((β.val id).ownBlock.toList++(d_.set i (r.2.flatMap (d7 β))).flatten), ?_,by rw[UY];simp [bX]⟩
 rw[how,XO]
 refine hc.ao9 (t:=t') (ct:=ct) (ts:=ts) (rows:=rows.set i (aD (rows.getD i []) off r.1)) (hl:=none) (G:=fun k=>k∈jH r.2) dT (fun k hk e=>aoq (e ▸ hk)) (by simp [fo,dB,fc]) (fun j hj x hx=> ?_) (by simp) (fun b hb RG=>setRow_other w g' b _ (fun e=>RG (by rw[e,hg];simp))) (fun b hb=>by simp only[cb];exact List.mem_append_left _ hb) (fun b hb=> ?_) ?_ aqv
 ·simp only[fo,dB,hj,if_false,fc] at hx
  rw[amB] at hx
  split at hx
  ·cases hx
  ·rename_i hk
   exact⟨hx,hk⟩
 ·rw[ma him] at hb
  simp only[List.mem_append] at hb
  rcases hb with hb | hb | hb
  ·left
   simp only[cb,hnb]
   rw[gL him]
   simp [hb]
  ·right
   obtain⟨k,hk,ob,h3,h4⟩:=hmt b hb
   exact⟨k,ob,hk,h3,h4⟩
  ·left
   simp only[cb,hnb]
   rw[gL him]
   simp [hb]
 ·exact⟨_,_,by simpa [Env.Jn] using hw',abg,by simp [Env.Jn,dB],by simp [Env.Jn]⟩
theorem alk (hR:Rel w0 S st a w) {d:Nat} (dL:o.dst=some d) (hd:eD st.n d) (lR:jr st d) {t:TypeId} {ct:List CT} {ts:List TypeId} {rows:List (List DC)} {w':World} {v:Value}
  (fa:(execOp a.eval o).run P w= .ok (.value v) w') (hk:Kept S w0 w') (hs:w.heap.size≤w'.heap.size) (hw:∀b,b<w.heap.size→w'.heap[b]? =w.heap[b]?)
  (hB:∀b∈v.ownBlock.toList,b=w.heap.size) {vals:List Value} (eO:qC w' t ct.length false v rows.length vals)
  (u_:kV w' ct ts rows vals (fun _=>none) (List.replicate rows.length []))
  (Mv:e.sv= .own (bD d 0)) (XO:e.cw=none) (how:e.ow=[(bD d 0,some (.deep t ct ts rows none))]):Good P w0 S st o e a w:=by
 obtain⟨β,φ,hc⟩:=hR.core
 have jj:bD d 0 / 64=d:=uX d 0 (by omega)
 have hle:=hR.kept.size
 have anC:(List.replicate rows.length ([]:List Nat)).flatten=[]:=by simp
 have hval:(β.MA (bD d 0) v []).val (bD d 0)=v:=by simp [Env.MA,dB]
 have aqx:(β.MA (bD d 0) v []).nb (bD d 0)=[]:=by simp [Env.MA,dB]
 have hvn:v.ownBlock.toList.Nodup:=by cases v.ownBlock<;>simp
 refine oe hR (fun d' h'=>by rw[dL] at h';injection h' with h';exact h' ▸ hd) fa hk
  ⟨β.MA (bD d 0) v [],dB φ (bD d 0) v.ownBlock.toList, ?_, ?_⟩
 ·rw[how,XO]
  refine hc.create hs hw (fun i hi=>lR.slot i _ hi jj) (fun j ob hj hi=>(lR.obj j ob hj).2 _ hi jj) ?_ (fun j hj=>⟨by simp [Env.MA,dB,hj],rfl⟩) ?_ ?_ hvn ?_ rfl (fun j hj=>by simp [Env.MA,dB,hj])
  ·cases hn:st.obj (bD d 0) with
   | none=>rfl
   | some ob=>exact absurd jj (lR.obj _ ob hn).1
  ·intro b hb
   simp only[cb,hval,aqx,List.append_nil] at hb
   rw[hB b hb]
   exact Nat.le_refl _
  ·exact⟨vals,List.replicate rows.length [],by rw[hval];exact eO,u_,by rw[aqx,anC],by rw[hval,anC,List.append_nil]⟩
  ·intro b hb
   have h1:=hB b hb
   subst h1
   refine⟨⟨.inl hle,eO.lt _ hb⟩,fun j ob hj ie=> ?_⟩
   have:=((hc.fresh j ob hj).2 _ ie).2
   omega
 ·rw[Mv]
  unfold bX
  exact⟨hval.symm,eO.one⟩
theorem S5 {α:Type} (z:List α):∀(n k:Nat),k<n→(((List.replicate n z).flatten).drop (k*z.length)).take z.length=z
 | 0,k,h=>by omega
 | n+1,0,_=>by simp [List.replicate_succ]
 | n+1,k+1,h=>by
  rw[List.replicate_succ,List.flatten_cons,Nat.succ_mul,Nat.add_comm,List.drop_append,List.drop_of_length_le (by omega),List.nil_append]
  rw[show z.length+k*z.length - z.length=k*z.length by omega]
  exact S5 z n k (by omega)
theorem kV.replicate {ct:List CT} {ts:List TypeId} {r:List DC} {z:List Value} (h:aN w none ct ts r z []) (hl:z.length=ct.length) (n:Nat):kV w ct ts (List.replicate n r) (List.replicate n z).flatten (fun _=>none) (List.replicate n []):=by
 refine⟨by simp,fun i r' m hi hm=> ?_⟩
 have u_:i<n:=by have:=(List.getElem?_eq_some_iff.1 hi).1;simpa using this
 rw[List.getElem?_replicate_of_lt u_,Option.some.injEq] at hi hm
 subst hi hm
 rw[←hl,S5 z n i u_]
 exact h
theorem apb:∀ {U:List MU},jH U=[]→U.flatMap (d7 β)=[]
 | [],_=>rfl
 | x::l,h=>by
  cases x<;>simp [jH] at h
  simp [d7,apb h]
theorem anF (hR:Rel w0 S st a w) {d:Nat} (dL:o.dst=some d) (hd:eD st.n d) (lR:jr st d) {t et:TypeId} {l c:Operand} (ho:o.op= .makeSlice t l c) {n m:Int} {ct:List CT} {ts:List TypeId} {i:TypeInfo} {z:List SV} {r:List DC×List MU}
  (hl:(oq l).val st.get st.obj=some (.int .i64 n)) (hm:(oq c).val st.get st.obj=some (.int .i64 m)) (hu:P.underlying t=some (.slice et)) (hi:P.info? et=some i) (hsz:i.size=ct.length)
  (hz:(Bk P et).val st.get st.obj=some z) (hr:(ec ct ts z).val st.get st.obj=some r) (hmu:jH r.2=[])
  (he:e= {sv:= .own (bD d 0),ow:=[(bD d 0,some (.deep et ct ts (List.replicate n.toNat r.1) none))],ok:=decide (0≤n) && decide (n≤m) && decide (m.toNat*i.bytes≤140737488355328) && decide (m≤9223372036854775807)})
  (hok:e.ok=true):Good P w0 S st o e a w:=by
 subst he
 simp only[Bool.and_eq_true,decide_eq_true_eq] at hok
 obtain⟨⟨⟨h0,hnm⟩,hby⟩,hmx⟩:=hok
 obtain⟨i',zv,hi',hzv,rfl,fm⟩:=zn hz
 rw[hi] at hi'
 injection hi' with hi'
 subst hi'
 obtain⟨β0,φ0,hc0⟩:=hR.core
 obtain⟨hra,_⟩:=wT hc0 ct ts _ _ r (F0 zv.cells.toList) hr
 have hcl:=yL.cells _ _ _ _ _ hra
 rw[apb hmu] at hcl
 have hzl:zv.cells.toList.length=ct.length:=(aN.length _ _ _ _ _ hcl).1
 have aqc:(madeCells zv.cells (m.toNat*i.size)).toList=(List.replicate m.toNat zv.cells.toList).flatten:=by
  have:=ao4 zv.cells m.toNat
  rw[hsz,←hzl]
  simpa using this
 have hx:=hc0.ev hl
 have hy:=hc0.ev hm
 simp only[bX] at hx hy
 have hb:(i.bytes:Int)*m≤281474976710656:=by
  have h1:((m.toNat*i.bytes:Nat):Int)≤140737488355328:=by omega
  rw[Int.natCast_mul,Int.toNat_of_nonneg (by omega),Int.mul_comm] at h1
  omega
 have fa:=run_make (P:=P) w t et i zv hu hi hzv .i64 .i64 n m h0 hnm hb hmx
 refine alk hR dL hd lR (vals:=(List.replicate n.toNat zv.cells.toList).flatten) (v:= .slice (some ⟨w.heap.size,0,none⟩) n.toNat m.toNat)
  (w':=w.alloc (.cells (madeCells zv.cells (m.toNat*i.size)) et)) ?_ (hR.kept.alloc _) (by rw[qS];omega) (fun b hb=>alloc_old _ b hb) (by simp [Value.ownBlock]) ?_ ?_ rfl rfl rfl
 ·simp [execOp,ho,hx.1,hy.1,fa]
 ·refine⟨by simp [hzl],.inr ⟨w.heap.size,m.toNat,_,by simp,by simpa using EH _,by simp;omega,by simp only[maxLen];omega,by rw[size_madeCells,hsz], ?_⟩⟩
  rw[aqc]
  have:List.replicate m.toNat zv.cells.toList=List.replicate n.toNat zv.cells.toList++List.replicate (m.toNat - n.toNat) zv.cells.toList:=by
   rw[List.replicate_append_replicate]
   congr 1
   omega
  rw[this,List.flatten_append,List.take_append_of_le_length (by simp [hzl]),List.take_of_length_le (by simp [hzl])]
 ·rw[List.length_replicate]
  exact kV.replicate (aN.mono (by rw[qS];omega) _ _ _ _ _ hcl (by simp)) hzl _
theorem apC (hc:Core w0 S f h β φ tm w) {id nid i:Nat} {t t1:TypeId} {ct e2:List CT} {rows r:List (List DC)} {u:Bool} {h':Nat→Option bP} (dT:h id=some (.deep t ct [t1] rows (some (i,nid)))) (hn:h nid=some (.row t1 e2 r false u)) (hsl:∃e',ct[D0 ct]? =some (.sl e')∧e'=e2) (asC:eK ct=1)
  (sV:nid≠id) (hf:cg e2=true) (hh:h' id=some (.deep t ct [t1] (rows.set i (aD (rows.getD i []) (D0 ct) [.sl r])) none)) (hh2:∀j,j≠id→h' j=if j=nid then none else h j):
  ∃β' φ',Core w0 S f h' β' φ' tm w:=by
 obtain⟨e',hsl,rfl⟩:=hsl
 obtain⟨vals,d_,eO,u_,hnb,hφ⟩:=hc.dA id _ dT
 obtain⟨anG,abj,aqs,Ow,_,_⟩:=hc.dA nid _ hn
 have hnd:=(hc.fresh id _ dT).1
 rw[hφ] at hnd
 have htn:cb β nid (.row t1 e' r false u)=(β.val nid).ownBlock.toList:=rfl
 have arD:∀b∈(β.val nid).ownBlock.toList,b ∉ φ id:=fun b hb=>hc.sep nid id _ _ sV hn dT b (bF (hc.dA nid _ hn) b (htn ▸ hb))
 have hvn:(β.val nid).ownBlock.toList.Nodup:=by cases (β.val nid).ownBlock<;>simp
 have abm:∀b∈(d_.set i (β.val nid).ownBlock.toList).flatten,b∈d_.flatten∨b∈(β.val nid).ownBlock.toList:=by
  intro b hb
  by_cases hi:i<d_.length
  ·rw[ma hi] at hb
   rw[gL hi]
   simp only[List.mem_append] at hb ⊢
   rcases hb with hb | hb | hb<;>simp [hb]
  ·rw[List.set_eq_of_length_le (by omega)] at hb
   exact .inl hb
 have aqv:((β.val id).ownBlock.toList++(d_.set i (β.val nid).ownBlock.toList).flatten).Nodup:=by
  by_cases hi:i<d_.length
  ·rw[ma hi]
   have h3:=hnd
   rw[gL hi] at h3
   have h4:=M8 (A:=(β.val id).ownBlock.toList++(d_.take i).flatten) (p1:=[]) (p2:=d_[i]) (p3:=[]) (B:=(d_.drop (i+1)).flatten) (n:=(β.val nid).ownBlock.toList) (by simpa using h3) hvn
    (fun b hb RG=>arD b hb (by rw[hφ,gL hi];simpa using RG))
   simpa using h4
  ·rw[List.set_eq_of_length_le (by omega)]
   exact hnd
 refine⟨β.Jn id (d_.set i (β.val nid).ownBlock.toList).flatten,dB φ id ((β.val id).ownBlock.toList++(d_.set i (β.val nid).ownBlock.toList).flatten), ?_⟩
 refine hc.ao9 (t:=t) (ct:=ct) (ts:=[t1]) (rows:=rows.set i (aD (rows.getD i []) (D0 ct) [.sl r])) (hl:=none) (G:=fun k=>k=nid) dT (fun k hk e=>sV (hk ▸ e)) hh (fun j hj x hx=> ?_) (Nat.le_refl _) (fun _ _ _=>rfl) (fun b hb=>by simp only[cb];exact List.mem_append_left _ hb) (fun b hb=> ?_) ?_ aqv
 ·rw[hh2 j hj] at hx
  split at hx
  ·cases hx
  ·rename_i hk
   exact⟨hx,hk⟩
 ·rcases abm b hb with hb | hb
  ·left
   simp only[cb,hnb]
   exact List.mem_append_right _ hb
  ·exact .inr ⟨nid,_,rfl,hn,htn ▸ hb⟩
 ·refine⟨vals,d_.set i (β.val nid).ownBlock.toList,by simpa [Env.Jn] using eO,⟨by simp [u_.1],fun k r' m hk hm=> ?_⟩,by simp [Env.Jn,dB],by simp [Env.Jn]⟩
  by_cases hki:k=i
  ·subst hki
   have hkl:k<rows.length:=by have:=(List.getElem?_eq_some_iff.1 hk).1;simpa using this
   have hkm:k<d_.length:=by rw[u_.1];exact hkl
   rw[List.getElem?_set_self hkl,Option.some.injEq] at hk
   rw[List.getElem?_set_self hkm,Option.some.injEq] at hm
   subst hk hm
   have h3:=u_.2 k (rows.getD k []) d_[k] (tV hkl) (by simp)
   simp only[PN,if_true] at h3
   exact aN.back _ e' t1 _ _ d_[k] hsl asC h3 ⟨anG,abj,aqs,Ow,rfl⟩
  ·rw[List.getElem?_set_ne (Ne.symm hki)] at hk hm
   have:=u_.2 k r' m hk hm
   simp only[PN,hki,if_false] at this
   exact this
end
end Go.Proofs.YthpmalpdnnbkgaaGreat.Vm
set_option linter.unusedVariables false
set_option linter.unusedSimpArgs false
namespace Go.Proofs.YthpmalpdnnbkgaaGreat.Vm
section
variable {P:Program} {Γ:Ctx} {w0:World} {S:Own} {st:St} {o:Oper} {e:u4} {a:Act} {w w':World}
variable {f:Nat→SV} {h:Nat→Option bP} {β:Env} {φ:Nat→List Nat} {tm:Array Value}
theorem Core.compose (hc:Core w0 S f h β φ tm w) {id:Nat} {G:Nat→Prop} {h':Nat→Option bP} {v':Value} {t:TypeId} {ct:List CT} {ts:List TypeId} {rows:List (List DC)} {vals:List Value} {d_:List (List Nat)}
  (D2:∀i,id ∉ l5 (f i)) (aoe:∀j x,h j=some x→id ∉ oy x) (aur:h id=none)
  (hh:h' id=some (.deep t ct ts rows none)) (hh2:∀j,j≠id→∀x,h' j=some x→h j=some x∧¬G j)
  (hs:w.heap.size≤w'.heap.size) (hk:w0.heap.size≤w.heap.size) (hw:∀b,b<w.heap.size→(∀k x,G k→h k=some x→b ∉ cb β k x)→w'.heap[b]? =w.heap[b]?)
  (hbl:∀b∈v'.ownBlock.toList++d_.flatten,(∃k x,G k∧h k=some x∧b∈cb β k x)∨(b=w.heap.size∧b<w'.heap.size))
  (eO:qC w' t ct.length false v' rows.length vals) (u_:kV w' ct ts rows vals (fun _=>none) d_) (hnd:(v'.ownBlock.toList++d_.flatten).Nodup):
  Core w0 S f h' (β.MA id v' d_.flatten) (dB φ id (v'.ownBlock.toList++d_.flatten)) tm w':=by
 have hval:(β.MA id v' d_.flatten).val id=v':=by simp [Env.MA,dB]
 have aqx:(β.MA id v' d_.flatten).nb id=d_.flatten:=by simp [Env.MA,dB]
 have PW:∀j oj,j≠id→cb (β.MA id v' d_.flatten) j oj=cb β j oj:=by
  intro j oj hj
  cases oj<;>simp [cb,Env.MA,dB,hj]
 have apc:∀b∈v'.ownBlock.toList++d_.flatten,((w0.heap.size≤b∨S b)∧b<w'.heap.size)∧(Av h β b∨w.heap.size≤b)∧∀j oj,h j=some oj→¬G j→b ∉ φ j:=by
  intro b hb
  rcases hbl b hb with ⟨k,x,MS,hx,h1⟩ | ⟨h1,h2⟩
  ·have h2:=bF (hc.dA k x hx) b h1
   have h3:=(hc.fresh k x hx).2 b h2
   exact⟨⟨h3.1,by omega⟩,.inl (.inl ⟨k,x,hx,h1⟩),fun j oj Yh hg=>hc.sep k j x oj (fun e=>hg (e ▸ MS)) hx Yh b h2⟩
  ·exact⟨⟨.inl (by omega),h2⟩,.inr (by omega),fun j oj Yh _ ie=>by have:=((hc.fresh j oj Yh).2 b ie).2;omega⟩
 refine hc.aiU (fun j=>j=id) hs (fun b hb hn=>hw b hb (fun k x _ hx hbk=>hn (.inl ⟨k,x,hx,hbk⟩))) ?_ (fun i j hj e=>D2 i (e ▸ hj)) (fun j hj=>⟨by simp [Env.MA,dB,hj],rfl⟩) ?_ ?_
 ·rintro b (⟨j,oj,hj,ie⟩ | hb)
  case inr=>exact .inl (.inr hb)
  by_cases sR:j=id
  ·subst sR
   rw[hh,Option.some.injEq] at hj
   subst hj
   simp only[cb,hval,aqx] at ie
   exact (apc b ie).2.1
  ·rw[PW j oj sR] at ie
   exact .inl (.inl ⟨j,oj,(hh2 j sR oj hj).1,ie⟩)
 ·intro j oj hj
  by_cases sR:j=id
  ·subst sR
   rw[hh,Option.some.injEq] at hj
   subst hj
   refine .inr ⟨?_,by simpa [dB] using hnd,fun b hb=>(apc b (by simpa [dB] using hb)).1⟩
   exact⟨vals,d_,by rw[hval];exact eO,u_,aqx,by rw[hval];simp [dB]⟩
  ·obtain⟨h1,hg⟩:=hh2 j sR oj hj
   refine .inl ⟨sR,h1,by simp [Env.MA,dB,sR],by simp [dB,sR],fun k hk2 e=>aoe j oj h1 (e ▸ hk2),fun b hb=> ?_⟩
   have Jt:=bF (hc.dA j oj h1) b hb
   exact hw b ((hc.fresh j oj h1).2 b Jt).2 (fun k x MS hx hbk=>hc.sep k j x oj (fun e=>hg (e ▸ MS)) hx h1 b (bF (hc.dA k x hx) b hbk) Jt)
 ·intro i j oi oj sV hi hj b hb
  by_cases hii:i=id
  ·subst hii
   have Jj:j≠i:=Ne.symm sV
   simp only[dB,if_true] at hb
   simp only[dB,Jj,if_false]
   obtain⟨h1,h2⟩:=hh2 j Jj oj hj
   exact (apc b hb).2.2 j oj h1 h2
  ·simp only[dB,hii,if_false] at hb
   obtain⟨h1,h2⟩:=hh2 i hii oi hi
   by_cases sR:j=id
   ·subst sR
    simp only[dB,if_true]
    exact fun hb'=>(apc b hb').2.2 i oi h1 h2 hb
   ·simp only[dB,sR,if_false]
    exact hc.sep i j oi oj sV h1 (hh2 j sR oj hj).1 b hb
theorem kV.append {ct:List CT} {ts:List TypeId} {r1 r2:List (List DC)} {v1 v2:List Value} {m1 m2:List (List Nat)} (h1:kV w ct ts r1 v1 (fun _=>none) m1) (hl:v1.length=r1.length*ct.length) (h2:kV w ct ts r2 v2 (fun _=>none) m2):
  kV w ct ts (r1++r2) (v1++v2) (fun _=>none) (m1++m2):=by
 refine⟨by simp [h1.1,h2.1],fun i r m hi hm=> ?_⟩
 rw[List.getElem?_append] at hi hm
 rw[h1.1] at hm
 by_cases hlt:i<r1.length
 ·rw[if_pos hlt] at hi hm
  have hle:i*ct.length+ct.length≤v1.length:=by rw[hl,←Nat.succ_mul];exact Nat.mul_le_mul_right _ hlt
  have:=h1.2 i r m hi hm
  rw[List.drop_append_of_le_length (by omega),List.take_append_of_le_length (by simp;omega)]
  exact this
 ·rw[if_neg hlt] at hi hm
  have:=h2.2 (i - r1.length) r m hi hm
  have e1:(v1++v2).drop (i*ct.length)=v2.drop ((i - r1.length)*ct.length):=by
   have hge:v1.length≤i*ct.length:=by rw[hl];exact Nat.mul_le_mul_right _ (by omega)
   rw[List.drop_append,List.drop_of_length_le hge,List.nil_append,hl,Nat.sub_mul]
  rw[e1]
  exact this
theorem aN.one:∀(cs:List CT) (ts:List TypeId) (ds:List DC) (us:List Value) (mb:List Nat),aN w none cs ts ds us mb→∀u∈us,u.oneCell'=true
 | [],_,_,_,_,h=>by
  simp only[aN] at h
  simp [h.2.2.1]
 | c::cs,_,_,_,_,h=>by
  rcases zq c with ⟨e,rfl⟩ | hc
  ·simp only[aN] at h
   obtain⟨t,DP,rows,ds',v,eo,m1,Om,rfl,rfl,rfl,_,⟨vals,fps,g1,_⟩,h6,rfl⟩:=h
   intro u hu
   rcases List.mem_cons.1 hu with rfl | hu
   ·exact g1.one
   ·exact aN.one cs _ _ _ _ h6 u hu
  ·rw[aN.flat hc] at h
   obtain⟨d,ds',v,eo,rfl,rfl,h3,h4⟩:=h
   intro u hu
   rcases List.mem_cons.1 hu with rfl | hu
   ·exact h3.one
   ·exact aN.one cs _ _ _ _ h4 u hu
theorem kV.one {ct:List CT} {ts:List TypeId} {rows:List (List DC)} {vals:List Value} {d_:List (List Nat)} (h:kV w ct ts rows vals (fun _=>none) d_) (hl:vals.length=rows.length*ct.length) (hp:0<ct.length):∀u∈vals,u.oneCell'=true:=by
 intro u hu
 obtain⟨p,hpl,rfl⟩:=List.getElem_of_mem hu
 have hi:p / ct.length<rows.length:=by rw[Nat.div_lt_iff_lt_mul hp];omega
 have hj:=Nat.mod_lt p hp
 have hm:p / ct.length<d_.length:=by rw[h.1];exact hi
 have hc:=h.2 (p / ct.length) rows[p / ct.length] d_[p / ct.length] (by simp) (by simp)
 refine aN.one _ _ _ _ _ hc _ (List.mem_of_getElem? (i:=p % ct.length) ?_)
 rw[List.getElem?_take,if_pos hj,List.getElem?_drop]
 have:p / ct.length*ct.length+p % ct.length=p:=by rw[Nat.mul_comm];exact Nat.div_add_mod p ct.length
 rw[this]
 simp [hpl]
theorem anH (hc:Core w0 S f h β φ tm w) {et:TypeId} {ct:List CT} {ts:List TypeId} {s:SV} {v:Value} {q:List (List DC)×List Nat} (hs:bX w (Av h β) β s v) (hq:(aly et ct ts s).val f h=some q):
  ∃vals d_,qC w et ct.length false v q.1.length vals∧kV w ct ts q.1 vals (fun _=>none) d_∧(v.ownBlock.toList++d_.flatten).Nodup∧
   ((q.2=[]∧v= .slice none 0 0∧d_=[])∨∃id,q.2=[id]∧∃x,h id=some x∧cb β id x=v.ownBlock.toList++d_.flatten):=by
 unfold aly at hq
 split at hq
 ·simp only[M.ax,Option.some.injEq] at hq
  subst hq
  simp only[bX] at hs
  subst hs
  exact⟨[],[],⟨by simp,.inl ⟨rfl,rfl,rfl⟩⟩,⟨rfl,by simp⟩,by simp [Value.ownBlock],.inl ⟨rfl,rfl,rfl⟩⟩
 ·rename_i id
  simp only[M.eB,Option.bind_eq_some_iff] at hq
  obtain⟨ob,dT,hq⟩:=hq
  simp only[bX] at hs
  split at hq
  ·rename_i t' e' DP r
   cases hb:Nat.beq t' et && dG e' ct && KC DP ts
   ·simp [hb] at hq
   simp only[hb,cond_true,M.ax,Option.some.injEq] at hq
   subst hq
   simp only[Bool.and_eq_true] at hb
   have b1:=Nat.eq_of_beq_eq_true hb.1.1
   have b2:=dR _ _ hb.1.2
   have b3:=Mp _ _ hb.2
   subst b1 b2 b3
   have lR:=(hc.fresh id _ dT).1
   obtain⟨vals,d_,g1,g2,g3,g4⟩:=hc.dA id _ dT
   rw[g4] at lR
   rw[←hs.1] at g1 lR
   exact⟨vals,d_,g1,g2,lR,.inr ⟨id,rfl,_,dT,by simp only[cb,g3,hs.1]⟩⟩
  ·simp at hq
 ·simp at hq
theorem aqy:∀(ids:List Nat) (h:Nat→Option bP) (j:Nat),fo (gone ids) h j=if j∈ids then none else h j
 | [],h,j=>by simp [gone,fo]
 | i::l,h,j=>by
  have ih:=aqy l h j
  show dB (fo (gone l) h) i none j=_
  simp only[dB,List.mem_cons]
  by_cases hj:j=i
  ·simp [hj]
  ·simp only[hj,if_false,false_or]
   exact ih
theorem aoy {l m:List Nat} (hn:wQ (l++m)=true):∀i∈l,i ∉ m:=by
 induction l with
 | nil=>simp
 | cons x l ih=>
  obtain⟨h1,h2⟩:=F2 (i:=x) (l:=l++m) hn
  intro i hi
  rcases List.mem_cons.1 hi with rfl | hi
  ·exact fun hm=>h1 (List.mem_append_right _ hm)
  ·exact ih h2 i hi
theorem alm (hR:Rel w0 S st a w) {d:Nat} (dL:o.dst=some d) (hd:eD st.n d) (lR:jr st d) {t et:TypeId} {s x:Operand} {c:Call} (ho:o.op= .call c) (hb:c.callee= .builtin .append) (hargs:c.args= #[s,x])
  (hat:c.argTypes= #[t,t]) {ss sx:SV} {ct:List CT} {ts:List TypeId} {p q:List (List DC)×List Nat} {z:List SV} (h1:(oq s).val st.get st.obj=some ss) (h2:(oq x).val st.get st.obj=some sx) (hu:P.underlying t=some (.slice et))
  (hsz:eA P et ct.length=true) (hp:0<ct.length) (hz:(Bk P et).val st.get st.obj=some z) (hzl:z.length=ct.length) (hqp:(aly et ct ts ss).val st.get st.obj=some p) (hqq:(aly et ct ts sx).val st.get st.obj=some q) (hnd:wQ (p.2++q.2)=true)
  (qV:Jd P et (p.1.length+q.1.length)=true) (Mv:e.sv= .own (bD d 0)) (XO:e.cw=none)
  (how:e.ow=(bD d 0,some (.deep et ct ts (p.1++q.1) none))::gone (p.2++q.2)):Good P w0 S st o e a w:=by
 obtain⟨i,hi,fy⟩:=ep hsz
 obtain⟨i',zv,hi',hzv,rfl,_⟩:=zn hz
 rw[hi] at hi'
 injection hi' with hi'
 subst hi'
 obtain⟨β,φ,hc⟩:=hR.core
 obtain⟨arX,aoz,o1,d1,n1,k1⟩:=anH hc (hc.ev h1) hqp
 obtain⟨anG,aoA,o2,d2,n2,k2⟩:=anH hc (hc.ev h2) hqq
 have fm:=d2.one o2.1 hp
 obtain⟨Q,cc,hxv,hqn,hcell⟩:∃Q cc,a.eval x= .slice Q q.1.length cc∧(Q=none→q.1.length=0)∧∀ad,Q=some ad→∀j u,anG[j]? =some u→w.cell? (ad.add j)=some u:=by
  rcases o2.2 with ⟨hv,h0,_⟩ | ⟨g,cap,cur,hv,_⟩
  ·exact⟨none,0,by rw[hv,h0],fun _=>h0,by simp⟩
  ·refine⟨some ⟨g,0,none⟩,cap,hv,by simp,fun ad had j u hj=> ?_⟩
   simp only[Option.some.injEq] at had
   subst had
   rw[sQ]
   have:=o2.cell (g:=g) (by rw[hv];rfl) hj
   simpa using this
 obtain⟨v',w',fa,KF,zo,Ov⟩:=UZ (P:=P) (ty:=o.type) (c:=cc) hu hi hzv fy (by simpa using hzl) hp o1 o2.1 hqn hcell fm qV
 have jj:bD d 0 / 64=d:=uX d 0 (by omega)
 have aqz:∀b∈(a.eval s).ownBlock.toList++aoz.flatten,∃k y,k∈p.2∧st.obj k=some y∧b∈cb β k y:=by
  intro b hb'
  rcases k1 with ⟨_,hv,hm⟩ | ⟨id,Bo,y,hy,ht⟩
  ·rw[hv,hm] at hb';simp [Value.ownBlock] at hb'
  ·exact⟨id,y,by rw[Bo];simp,hy,by rw[ht];exact hb'⟩
 have Ow:∀b∈(a.eval x).ownBlock.toList++aoA.flatten,∃k y,k∈q.2∧st.obj k=some y∧b∈cb β k y:=by
  intro b hb'
  rcases k2 with ⟨_,hv,hm⟩ | ⟨id,Bo,y,hy,ht⟩
  ·rw[hv,hm] at hb';simp [Value.ownBlock] at hb'
  ·exact⟨id,y,by rw[Bo];simp,hy,by rw[ht];exact hb'⟩
 have asD:=aoy hnd
 have aoB:∀b∈(a.eval s).ownBlock.toList++aoz.flatten,b ∉ (a.eval x).ownBlock.toList++aoA.flatten:=by
  intro b h3 h4
  obtain⟨k,y,hk,hy,hb1⟩:=aqz b h3
  obtain⟨k',y',hk',hy',RG⟩:=Ow b h4
  exact hc.sep k k' y y' (fun e=>asD k hk (e ▸ hk')) hy hy' b (bF (hc.dA k y hy) b hb1) (bF (hc.dA k' y' hy') b RG)
 have U0:∀b,b<w.heap.size→(a.eval s).ownBlock≠some b→w'.heap[b]? =w.heap[b]? :=fun b hb' sV=>zo.block b hb' (fun e=>sV e.symm)
 have art:=d1.lt
 have aru:=d2.lt
 have at7:∀b∈aoz.flatten,(a.eval s).ownBlock≠some b:=by
  intro b hb' e
  rw[List.nodup_append] at n1
  exact n1.2.2 b (by rw[e];simp) b hb' rfl
 have aua:∀b∈aoA.flatten,(a.eval s).ownBlock≠some b:=by
  intro b hb' e
  exact aoB b (List.mem_append_left _ (by rw[e];simp)) (List.mem_append_right _ hb')
 have hvo:∀b∈v'.ownBlock.toList,b∈(a.eval s).ownBlock.toList∨b=w.heap.size:=by
  intro b hb'
  rcases Ov with h3 | h3
  ·rw[h3] at hb';exact .inl hb'
  ·rw[h3] at hb';exact .inr (by simpa using hb')
 have hvn:v'.ownBlock.toList.Nodup:=by cases v'.ownBlock<;>simp
 have asE:(v'.ownBlock.toList++(aoz++aoA).flatten).Nodup:=by
  rw[List.flatten_append,List.nodup_append]
  rw[List.nodup_append] at n1 n2
  refine⟨hvn, ?_,fun b h3 b' h4 e=> ?_⟩
  ·rw[List.nodup_append]
   refine⟨n1.2.1,n2.2.1,fun b h3 b' h4 e=> ?_⟩
   subst e
   exact aoB b (List.mem_append_right _ h3) (List.mem_append_right _ h4)
  ·subst e
   rcases hvo b h3 with h5 | h5
   ·rcases List.mem_append.1 h4 with h4 | h4
    ·exact n1.2.2 b h5 b h4 rfl
    ·exact aoB b (List.mem_append_left _ h5) (List.mem_append_right _ h4)
   ·rcases List.mem_append.1 h4 with h4 | h4
    ·have:=art b h4;omega
    ·have:=aru b h4;omega
 have atm:kV w' ct ts (p.1++q.1) (arX++anG) (fun _=>none) (aoz++aoA):=by
  refine kV.append ?_ o1.1 ?_
  ·exact d1.mono zo.size (fun b hb'=>U0 b (art b hb') (at7 b hb')) (fun _=>rfl)
  ·exact d2.mono zo.size (fun b hb'=>U0 b (aru b hb') (aua b hb')) (fun _=>rfl)
 have atn:qC w' et ct.length false v' (p.1++q.1).length (arX++anG):=by rw[List.length_append];exact KF
 have ato:∀b,(a.eval s).ownBlock=some b→w0.heap.size≤b∨S b:=by
  intro b hb'
  obtain⟨k,y,_,hy,RL⟩:=aqz b (List.mem_append_left _ (by rw[hb'];simp))
  exact ((hc.fresh k y hy).2 b (bF (hc.dA k y hy) b RL)).1
 refine oe hR (fun d' h'=>by rw[dL] at h';injection h' with h';exact h' ▸ hd) (v:=v') (w':=w') ?_ (hR.kept.grown zo ato)
  ⟨β.MA (bD d 0) v' (aoz++aoA).flatten,dB φ (bD d 0) (v'.ownBlock.toList++(aoz++aoA).flatten), ?_, ?_⟩
 ·simp [execOp,ho,resolve,hb,hargs,hat,invoke,builtin,hxv,fa]
 ·rw[how,XO]
  refine hc.compose (G:=fun k=>k∈p.2++q.2) (fun i hi=>lR.slot i _ hi jj) (fun j ob hj hi=>(lR.obj j ob hj).2 _ hi jj) ?_ (by simp [fo,dB,fc]) (fun j hj y hy=> ?_) zo.size hR.kept.size (fun b hb' hn=> ?_) (fun b hb'=> ?_) atn atm asE
  ·cases hn:st.obj (bD d 0) with
   | none=>rfl
   | some ob=>exact absurd jj (lR.obj _ ob hn).1
  ·simp only[fo,dB,hj,if_false,fc] at hy
   rw[aqy] at hy
   split at hy
   ·cases hy
   ·rename_i hk
    exact⟨hy,hk⟩
  ·refine U0 b hb' (fun e=> ?_)
   obtain⟨k,y,hk,hy,RL⟩:=aqz b (List.mem_append_left _ (by rw[e];simp))
   exact hn k y (List.mem_append_left _ hk) hy RL
  ·rcases List.mem_append.1 hb' with hb' | hb'
   ·rcases hvo b hb' with h3 | h3
    ·obtain⟨k,y,hk,hy,RL⟩:=aqz b (List.mem_append_left _ h3)
     exact .inl ⟨k,y,List.mem_append_left _ hk,hy,RL⟩
    ·exact .inr ⟨h3,KF.lt b hb'⟩
   ·rw[List.flatten_append] at hb'
    rcases List.mem_append.1 hb' with hb' | hb'
    ·obtain⟨k,y,hk,hy,RL⟩:=aqz b (List.mem_append_right _ hb')
     exact .inl ⟨k,y,List.mem_append_left _ hk,hy,RL⟩
    ·obtain⟨k,y,hk,hy,RL⟩:=Ow b (List.mem_append_right _ hb')
     exact .inl ⟨k,y,List.mem_append_right _ hk,hy,RL⟩
 ·rw[Mv]
  unfold bX
  exact⟨by simp [Env.MA,dB],KF.one⟩
theorem kV.cons {ct:List CT} {ts:List TypeId} {r:List DC} {l:List Value} {m:List Nat} {rows:List (List DC)} {vals:List Value} {d_:List (List Nat)} (h1:aN w none ct ts r l m) (hl:l.length=ct.length) (h2:kV w ct ts rows vals (fun _=>none) d_):
  kV w ct ts (r::rows) (l++vals) (fun _=>none) (m::d_):=by
 have:=kV.append (r1:=[r]) (v1:=l) (m1:=[m]) ⟨rfl,fun i r' m' hi hm=>by
  have hi0:i=0:=by
   have:=(List.getElem?_eq_some_iff.1 hi).1
   simpa using this
  subst hi0
  simp only[List.getElem?_cons_zero,Option.some.injEq] at hi hm
  subst hi hm
  rw[Nat.zero_mul,List.drop_zero,List.take_of_length_le (by omega)]
  exact h1⟩ (by simp [hl]) h2
 simpa using this
theorem S6 (hc:Core w0 S st.get st.obj β φ a.tmps w) {ct:List CT} {ts:List TypeId} :∀(parts:List (Nat×Operand)) (k:Nat) (q:List (List DC)×List MU),(EE ct ts k parts).val st.get st.obj=some q→
  ∃(vals:List Value) (d_:List (List Nat)),vals.length=parts.length*ct.length∧q.1.length=parts.length∧kV w ct ts q.1 vals (fun _=>none) d_∧d_.flatten=q.2.flatMap (d7 β)∧Ju st.obj q.2∧
   ∀(pre suf:List Value),pre.length=k*ct.length→suf.length=parts.length*ct.length→
    Instr.fill (fun i=>some (i*ct.length,ct.length)) (pre++suf).toArray (parts.map fun x=>(x.1,a.eval x.2))=some (pre++vals).toArray
 | [],k,q,hq=>by
  simp only[EE,M.ax,Option.some.injEq] at hq
  subst hq
  refine⟨[],[],by simp,rfl,⟨rfl,by simp⟩,rfl,trivial,fun pre suf h1 h2=> ?_⟩
  have:suf=[]:=by simpa using h2
  subst this
  simp [Instr.fill]
 | (i,x)::rest,k,q,hq=>by
  simp only[EE] at hq
  cases hik:Nat.beq i k
  ·simp [hik] at hq
  have hik:=Nat.eq_of_beq_eq_true hik
  subst hik
  simp only[Nat.beq_refl,cond_true,M.aX,Option.bind_eq_some_iff,M.ax,Option.some.injEq] at hq
  obtain⟨s,hs,cs,hcs,r,hr,q2,Bc,rfl⟩:=hq
  obtain⟨Mv,fm⟩:=DF (hc.ev hs) hcs
  obtain⟨hra,aub⟩:=wT hc ct ts _ _ r Mv hr
  have hcl:=yL.cells _ _ _ _ _ hra
  have hll:=(aN.length _ _ _ _ _ hcl).1
  have fy:(a.eval x).cells.size=ct.length:=by simpa using hll
  obtain⟨vals,d_,S0,hl3,Ow,auc,aud,aoi⟩:=S6 hc rest (i+1) q2 Bc
  refine⟨(a.eval x).cells.toList++vals,(r.2.flatMap (d7 β))::d_, ?_,by simp [hl3],kV.cons hcl hll Ow,by simp [auc],aub.append aud, ?_⟩
  ·simp only[List.length_append,S0,List.length_cons,Array.length_toList,fy,Nat.succ_mul]
   omega
  ·intro pre suf h1 h2
   simp only[List.length_cons,Nat.succ_mul] at h2
   simp only[List.map_cons]
   rw[abe (off:=i*ct.length) (by rw[fy]) (by simp [h1,fy];omega)]
   have e1:((pre++suf).toArray.toList.take (i*ct.length)++((a.eval x).cells.toList++(pre++suf).toArray.toList.drop (i*ct.length+(a.eval x).cells.size)))=(pre++(a.eval x).cells.toList)++suf.drop ct.length:=by
    simp only[fy,←h1]
    simp [List.drop_append]
   rw[e1,aoi (pre++(a.eval x).cells.toList) (suf.drop ct.length) (by simp [h1,fy,Nat.succ_mul]) (by simp [h2])]
   simp
theorem amD (hR:Rel w0 S st a w) {d:Nat} (dL:o.dst=some d) (hd:eD st.n d) (lR:jr st d) {t et:TypeId} {len:Nat} {parts:Array (Nat×Operand)} (ho:o.op= .buildSlice t len parts) {ct:List CT} {ts:List TypeId} {q:List (List DC)×List MU}
  (hu:P.underlying t=some (.slice et)) (hsz:eA P et ct.length=true) (hpos:0<ct.length) (hlen:len=parts.toList.length) (hsm:len*ct.length≤16777216) (hz:∃z,(Bk P et).val st.get st.obj=some z)
  (hq:(EE ct ts 0 parts.toList).val st.get st.obj=some q) (hn:wQ (jH q.2)=true)
  (he:e= {sv:= .own (bD d 0),ow:=(bD d 0,some (.deep et ct ts q.1 none))::Je q.2}):Good P w0 S st o e a w:=by
 subst he
 obtain⟨i,hi,fy⟩:=ep hsz
 obtain⟨β,φ,hc⟩:=hR.core
 obtain⟨vals,d_,hvl,hrl,u_,D1,hmu,abK⟩:=S6 hc parts.toList 0 q hq
 obtain⟨z,hz⟩:=hz
 obtain⟨i',zv,hi',hzv,_,_⟩:=zn hz
 rw[hi] at hi'
 injection hi' with hi'
 subst hi'
 have hle:len≤maxLen:=by
  have:len≤len*ct.length:=Nat.le_mul_of_pos_right _ hpos
  simp only[maxLen]
  omega
 have fa:(Instr.buildSlice t len (parts.map fun x=>(x.1,a.eval x.2))).run P w= .ok (.slice (some ⟨w.heap.size,0,none⟩) len len) (w.alloc (.cells vals.toArray et)):=by
  rcases Nat.eq_zero_or_pos len with h0 | h0
  ·have hp:parts= #[]:=by
    have:parts.toList.length=0:=by omega
    simpa using this
   have hv:vals=[]:=by
    have:vals.length=0:=by rw[hvl,←hlen,h0,Nat.zero_mul]
    simpa using this
   subst hp hv h0
   simp [Instr.buildSlice,run_underlying hu,sizeOf,typeInfo,hi,Instr.fill,newRow,Array.range_zero']
  ·refine run_buildSlice (P:=P) w t et len _ vals.toArray i zv hu hi hzv (by rw[fy];omega) (by rw[fy];exact Nat.ne_of_gt (Nat.mul_pos h0 hpos)) ?_
   have:=abK [] ((Array.range (len*ct.length)).map (zv.cells[· % zv.cells.size]!)).toList (by simp) (by simp [hlen])
   rw[fy]
   generalize (Array.range (len*ct.length)).map (zv.cells[· % zv.cells.size]!)=A at this ⊢
   simpa using this
 have jj:bD d 0 / 64=d:=uX d 0 (by omega)
 have hmn:=Jl hc hmu hn
 have hmt:∀b∈q.2.flatMap (d7 β),∃k∈jH q.2,∃ob,st.obj k=some ob∧b∈cb β k ob:=EJ hmu
 have hlt:=u_.lt
 have eO:qC (w.alloc (.cells vals.toArray et)) et ct.length false (.slice (some ⟨w.heap.size,0,none⟩) len len) q.1.length vals:=by
  refine⟨by rw[hvl,hrl],.inr ⟨w.heap.size,len,vals.toArray,by rw[hrl,←hlen],by simpa using EH _,by rw[hrl,←hlen];exact Nat.le_refl _,hle,by simp [hvl,hlen], ?_⟩⟩
  rw[hrl,←hvl]
  simp
 refine oe hR (fun d' h'=>by rw[dL] at h';injection h' with h';exact h' ▸ hd) (v:= .slice (some ⟨w.heap.size,0,none⟩) len len) (w':=w.alloc (.cells vals.toArray et)) ?_ (hR.kept.alloc _)
  ⟨β.MA (bD d 0) (.slice (some ⟨w.heap.size,0,none⟩) len len) d_.flatten,dB φ (bD d 0) ([w.heap.size]++d_.flatten), ?_, ?_⟩
 ·simp [execOp,ho,fa]
 ·refine hc.compose (v':= .slice (some ⟨w.heap.size,0,none⟩) len len) (G:=fun k=>k∈jH q.2) (fun i hi=>lR.slot i _ hi jj) (fun j ob hj hi=>(lR.obj j ob hj).2 _ hi jj) ?_ (by simp [fo,dB,fc]) (fun j hj y hy=> ?_) (by rw[qS];omega) hR.kept.size (fun b hb' _=>alloc_old _ b hb') (fun b hb'=> ?_) eO (u_.mono (by rw[qS];omega) (fun b hb'=>alloc_old _ b (hlt b hb')) (fun _=>rfl)) ?_
  ·cases hn:st.obj (bD d 0) with
   | none=>rfl
   | some ob=>exact absurd jj (lR.obj _ ob hn).1
  ·simp only[fo,dB,hj,if_false,fc] at hy
   rw[amB] at hy
   split at hy
   ·cases hy
   ·rename_i hk
    exact⟨hy,hk⟩
  ·rcases List.mem_append.1 hb' with hb' | hb'
   ·right
    have:b=w.heap.size:=by simpa [Value.ownBlock] using hb'
    exact⟨this,by rw[qS];omega⟩
   ·left
    rw[D1] at hb'
    obtain⟨k,hk,ob,h3,h4⟩:=hmt b hb'
    exact⟨k,ob,hk,h3,h4⟩
  ·rw[List.nodup_append]
   refine⟨by simp [Value.ownBlock],by rw[D1];exact hmn,fun b h3 b' h4 e=> ?_⟩
   subst e
   have h5:b=w.heap.size:=by simpa [Value.ownBlock] using h3
   have:=hlt b h4
   omega
 ·unfold bX
  exact⟨by simp [Env.MA,dB],rfl⟩
end
end Go.Proofs.YthpmalpdnnbkgaaGreat.Vm
namespace Go.Proofs.YthpmalpdnnbkgaaGreat.Vm
theorem ajd {α:Type} {l:Array α} {x:α} (h:l.toList=[x]):l= #[x]:=by
 cases l;simp at h;subst h;rfl
theorem lD {α:Type} {l:Array α} {x y:α} (h:l.toList=[x,y]):l= #[x,y]:=by
 cases l;simp at h;subst h;rfl
theorem anI {P:Program} {Γ:Ctx} {w0:World} {S:Own} {st:St} {o:Oper} {e:u4} {a:Act} {w:World} (DQ:ai P Γ) (hR:Rel w0 S st a w)
  (hv:(evalOp P Γ o).val st.get st.obj=some e) (hok:e.ok=true) (hd:∀d,o.dst=some d→eD st.n d) (lR:e.ow≠[]→∀d,o.dst=some d→jr st d):Good P w0 S st o e a w:=by
 unfold evalOp at hv
 split at hv
 ·rename_i x ho
  simp only[M.aX,Option.bind_eq_some_iff,M.ax,Option.some.injEq] at hv
  obtain⟨s,h1,rfl⟩:=hv
  exact aiW hR hd (.inl ho) h1 rfl
 ·rename_i x ho
  simp only[M.aX,Option.bind_eq_some_iff,M.ax,Option.some.injEq] at hv
  obtain⟨s,h1,rfl⟩:=hv
  exact aiW hR hd (.inr ho) h1 rfl
 ·rename_i c x y ho
  simp only[M.aX,Option.bind_eq_some_iff] at hv
  obtain⟨sc,h0,sx,h1,sy,h2,hv⟩:=hv
  exact aoc hR hd ho h0 h1 h2 hv
 ·rename_i t ho
  split at hv
  ·rename_i d dL
   simp only[M.aX,Option.bind_eq_some_iff,M.ax,Option.some.injEq] at hv
   obtain⟨z,hz,rfl⟩:=hv
   exact anq hR dL (hd d dL) (lR (by simp) d dL) ho hz rfl
  ·simp at hv
 ·rename_i t x ho
  split at hv
  ·rename_i d dL
   simp only[M.aX,Option.bind_eq_some_iff,M.ax,Option.some.injEq] at hv
   obtain⟨s,hs,cs,hcs,rfl⟩:=hv
   exact apz hR dL (hd d dL) (lR (by simp) d dL) ho hs hcs rfl
  ·simp at hv
 ·rename_i t parts ho
  split at hv
  ·rename_i fs hu
   split at hv
   ·rename_i places hp
    simp only[M.aX,Option.bind_eq_some_iff,M.ax,Option.some.injEq] at hv
    obtain⟨z,hz,cs,hcs,rfl⟩:=hv
    exact ano hR hd ho hu hp hz hcs rfl
   ·simp at hv
  ·simp at hv
 ·rename_i t len parts ho
  cases vJ:ale Γ o.dst with
  | true=>
   simp only[vJ,cond_true] at hv
   unfold ap0 at hv
   split at hv
   ·rename_i et d hu dL
    split at hv
    ·rename_i ct ts hct hts
     cases hb:eA P et ct.length && Nat.blt 0 ct.length && Nat.beq len parts.toList.length && Nat.ble (len*ct.length) 16777216
     ·simp only[hb,cond_false,M.aiV,reduceCtorEq] at hv
     simp only[hb,cond_true,M.aX,Option.bind_eq_some_iff] at hv
     obtain⟨z,hz,q,hq,hv⟩:=hv
     cases hn:wQ (jH q.2)
     ·simp [hn] at hv
     simp only[hn,cond_true,M.ax,Option.some.injEq] at hv
     simp only[Bool.and_eq_true] at hb
     exact amD hR dL (hd d dL) (lR (by rw[←hv];simp) d dL) ho hu hb.1.1.1 (Nat.le_of_ble_eq_true hb.1.1.2) (Nat.eq_of_beq_eq_true hb.1.2) (Nat.le_of_ble_eq_true hb.2) ⟨z,hz⟩ hq hn hv.symm
    ·simp at hv
   ·simp at hv
  | false=>
  simp only[vJ,cond_false] at hv
  split at hv
  ·rename_i et d hu dL
   split at hv
   ·rename_i ct hct
    cases hb:eA P et ct.length && Nat.blt 0 ct.length && Nat.beq len parts.toList.length && Nat.ble (len*ct.length) 16777216
    ·simp only[hb,cond_false,M.aiV,reduceCtorEq] at hv
    simp only[hb,cond_true,M.aX,Option.bind_eq_some_iff] at hv
    obtain⟨z,hz,q,hq,hv⟩:=hv
    cases hn:d4 q.2.1
    ·simp [hn] at hv
    simp only[hn,cond_true,M.ax,Option.some.injEq] at hv
    simp only[Bool.and_eq_true] at hb
    exact abf hR dL (hd d dL) (lR (by rw[←hv];simp) d dL) ho hu hb.1.1.1 (Nat.le_of_ble_eq_true hb.1.1.2) (Nat.eq_of_beq_eq_true hb.1.2) (Nat.le_of_ble_eq_true hb.2) hq ⟨z,hz⟩ hn hv.symm
   ·simp at hv
  ·simp at hv
 ·rename_i t x ho
  simp only[M.aX,Option.bind_eq_some_iff] at hv
  obtain⟨s,h1,hv⟩:=hv
  unfold arO at hv
  split at hv
  ·rename_i id i z off
   simp only[M.eB,Option.bind_eq_some_iff] at hv
   obtain⟨ob,dT,hv⟩:=hv
   split at hv
   ·rename_i t' ct ts rows hl
    cases vJ:ale Γ o.dst with
    | false=>
     simp only[vJ,cond_false] at hv
     exact anD hR hd ho h1 dT hv hok
    | true=>
     simp only[vJ,cond_true] at hv
     unfold arN at hv
     split at hv
     ·rename_i e' t1 d ai3 dL
      cases hb:Nat.beq z ct.length && Nat.beq (eK ct) 1 && !(isAggB P t) && (P.underlying t).isSome
      ·simp [hb] at hv
      simp only[hb,cond_true,M.ax,Option.some.injEq] at hv
      simp only[Bool.and_eq_true,Bool.not_eq_true'] at hb
      obtain⟨⟨⟨b1,b2⟩,b3⟩,b4⟩:=hb
      have b1:=Nat.eq_of_beq_eq_true b1
      subst b1
      obtain⟨td,hu⟩:=Option.isSome_iff_exists.1 b4
      have hi:i<rows.length:=by rw[←hv] at hok;simpa using hok
      exact aox hR dL (hd d dL) (lR (by rw[←hv];simp) d dL) ho h1 dT ai3 (Nat.eq_of_beq_eq_true b2) b3 hu hi (by rw[←hv]) (by rw[←hv]) (by rw[←hv])
     ·simp at hv
   ·exact aiY hR hd ho h1 hv hok
  ·exact aiY hR hd ho h1 hv hok
 ·rename_i t x y ho
  simp only[M.aX,Option.bind_eq_some_iff] at hv
  obtain⟨sx,h1,sy,h2,hv⟩:=hv
  have plain:(amh P t sx sy).val st.get st.obj=some e→Good P w0 S st o e a w:=by
   clear hv
   intro hv
   unfold amh at hv
   simp only[M.aX,Option.bind_eq_some_iff] at hv
   obtain⟨lE,hcs,hv⟩:=hv
   cases hsz:eA P t lE.length
   ·simp [hsz] at hv
   simp only[hsz,cond_true] at hv
   split at hv
   ·rename_i id off
    simp only[M.eB,Option.bind_eq_some_iff] at hv
    obtain⟨ob,dT,hv⟩:=hv
    split at hv
    ·rename_i t' cells
     cases hfit:Nat.ble (off+lE.length) cells.length
     ·simp [hfit] at hv
     simp only[hfit,cond_true,M.ax,Option.some.injEq] at hv
     exact aft hR hd ho h1 h2 hcs hsz dT (Nat.le_of_ble_eq_true hfit) hv.symm
    ·simp at hv
   ·rename_i id i z off
    simp only[M.eB,Option.bind_eq_some_iff] at hv
    obtain⟨ob,dT,hv⟩:=hv
    split at hv
    ·rename_i t' ct rows fz u
     cases hfit:Nat.beq z ct.length && Nat.ble (off+lE.length) ct.length
     ·simp [hfit] at hv
     simp only[hfit,cond_true,M.aX,Option.bind_eq_some_iff] at hv
     obtain⟨r,hr,hv⟩:=hv
     cases hm:lU id r.2.1 && d4 r.2.1
     ·simp [hm] at hv
     simp only[hm,cond_true,M.ax,Option.some.injEq] at hv
     simp only[Bool.and_eq_true] at hfit hm
     have hz:=Nat.eq_of_beq_eq_true hfit.1
     subst hz
     have hi:i<rows.length:=by rw[←hv] at hok;simpa using hok
     exact afu hR hd ho h1 h2 hcs hsz dT (Nat.le_of_ble_eq_true hfit.2) hr hm.1 hm.2 hi (by rw[←hv]) (by rw[←hv]) (by rw[←hv])
    ·simp at hv
   ·simp at hv
  unfold apZ at hv
  split at hv
  ·rename_i id i z off
   simp only[M.eB,Option.bind_eq_some_iff] at hv
   obtain⟨ob,dT,hv⟩:=hv
   split at hv
   ·rename_i t' ct ts rows hl
    unfold apY at hv
    simp only[M.aX,Option.bind_eq_some_iff] at hv
    obtain⟨lE,hcs,hv⟩:=hv
    cases hsz:eA P t lE.length && Nat.beq z ct.length && Nat.ble (off+lE.length) ct.length
    ·simp [hsz] at hv
    simp only[hsz,cond_true] at hv
    simp only[Bool.and_eq_true] at hsz
    obtain⟨⟨s1,s2⟩,s3⟩:=hsz
    have s2:=Nat.eq_of_beq_eq_true s2
    subst s2
    have s3:=Nat.le_of_ble_eq_true s3
    cases hf:cg ((ct.drop off).take lE.length) with
    | true=>
     simp only[hf,cond_true,M.aX,Option.bind_eq_some_iff] at hv
     obtain⟨r,hr,hv⟩:=hv
     cases hm:r.2.1.isEmpty
     ·simp [hm] at hv
     simp only[hm,cond_true,M.ax,Option.some.injEq] at hv
     have hi:i<rows.length:=by rw[←hv] at hok;simpa using hok
     exact amA hR hd ho h1 h2 hcs s1 dT s3 hf hr hi (by rw[←hv]) (by rw[←hv]) (by rw[←hv])
    | false=>
     simp only[hf,cond_false] at hv
     cases hcn:Nat.beq (eK ((ct.drop off).take lE.length)) (eK ct)
     ·simp [hcn] at hv
     simp only[hcn,cond_true,M.aX,Option.bind_eq_some_iff] at hv
     obtain⟨r,hr,hv⟩:=hv
     cases hm:wQ (id::jH r.2)
     ·simp [hm] at hv
     simp only[hm,cond_true,M.ax,Option.some.injEq] at hv
     have hi:i<rows.length∧an_ hl i=true:=by rw[←hv] at hok;simpa using hok
     exact amC hR hd ho h1 h2 hcs s1 dT s3 (Nat.eq_of_beq_eq_true hcn) hr hm hi.1 hi.2 (by rw[←hv]) (by rw[←hv]) (by rw[←hv])
   ·exact plain hv
  ·exact plain hv
 ·rename_i x ho
  simp only[M.aX,Option.bind_eq_some_iff] at hv
  obtain⟨s,h1,hv⟩:=hv
  exact aiX hR hd ho h1 hv
 ·rename_i op t x y t' ho
  simp only[M.aX,Option.bind_eq_some_iff] at hv
  obtain⟨sx,h1,sy,h2,hv⟩:=hv
  exact apx hR hd ho h1 h2 hv hok
 ·rename_i op t x ho
  simp only[M.aX,Option.bind_eq_some_iff] at hv
  obtain⟨sx,h1,hv⟩:=hv
  exact ap9 hR hd ho h1 hv
 ·rename_i s t x ho
  simp only[M.aX,Option.bind_eq_some_iff] at hv
  obtain⟨sx,h1,hv⟩:=hv
  exact aon hR hd lR ho h1 hv
 ·rename_i t l c ho
  simp only[M.aX,Option.bind_eq_some_iff] at hv
  obtain⟨sl,h1,sc,h2,hv⟩:=hv
  cases vJ:ale Γ o.dst with
  | true=>
   simp only[vJ,cond_true] at hv
   unfold arP at hv
   split at hv
   ·rename_i et n m d hu dL
    split at hv
    ·rename_i ct ts i hct hts hi
     cases hb:Nat.beq i.size ct.length && Nat.blt 0 ct.length
     ·simp [hb] at hv
     simp only[hb,cond_true,M.aX,Option.bind_eq_some_iff] at hv
     obtain⟨z,hz,r,hr,hv⟩:=hv
     cases hmu:(jH r.2).isEmpty
     ·simp [hmu] at hv
     simp only[hmu,cond_true,M.ax,Option.some.injEq] at hv
     simp only[Bool.and_eq_true] at hb
     exact anF hR dL (hd d dL) (lR (by rw[←hv];simp) d dL) ho h1 h2 hu hi (Nat.eq_of_beq_eq_true hb.1) hz hr (by simpa using hmu) hv.symm hok
    ·simp at hv
   ·simp at hv
  | false=>
  simp only[vJ,cond_false] at hv
  unfold arL at hv
  split at hv
  ·rename_i et n m d hu dL
   split at hv
   ·rename_i ct i hct hi
    cases hb:Nat.beq i.size ct.length && Nat.blt 0 ct.length
    ·simp [hb] at hv
    simp only[hb,cond_true,M.aX,Option.bind_eq_some_iff,M.ax,Option.some.injEq] at hv
    obtain⟨z,hz,r,hr,hv⟩:=hv
    simp only[Bool.and_eq_true] at hb
    exact aoh hR dL (hd d dL) (lR (by rw[←hv];simp) d dL) ho h1 h2 hu hi (Nat.eq_of_beq_eq_true hb.1) hz hr hv.symm hok
   ·simp at hv
  ·simp at hv
 ·rename_i t x lo hi mx ho
  split at hv
  ·simp only[M.aX,Option.bind_eq_some_iff] at hv
   obtain⟨sx,h1,sl,h2,sh,h3,hv⟩:=hv
   cases vJ:ale Γ o.dst
   ·simp only[vJ,cond_false] at hv
    exact anl hR hd ho h1 h2 h3 hv hok
   ·simp only[vJ,cond_true] at hv
    exact amv hR hd ho h1 h2 h3 hv hok
  ·simp at hv
 ·rename_i t x f ho
  split at hv
  ·rename_i fs hu
   split at hv
   ·rename_i fd hf
    cases hz:eA P fd.type 0
    ·simp only[hz,cond_false] at hv
     split at hv
     ·simp at hv
     ·rename_i i hi
      simp only[M.aX,Option.bind_eq_some_iff] at hv
      obtain⟨s,h1,hv⟩:=hv
      exact afr hR hd ho hu hf hz hi h1 hv
    ·simp [hz] at hv
   ·simp at hv
  ·simp at hv
 ·rename_i t x i ho
  simp only[M.aX,Option.bind_eq_some_iff] at hv
  obtain⟨sx,h1,si,h2,hv⟩:=hv
  exact abl hR hd ho h1 h2 hv hok
 ·rename_i t x i ho
  simp only[M.aX,Option.bind_eq_some_iff] at hv
  obtain⟨sx,h1,si,h2,hv⟩:=hv
  exact ank hR hd ho h1 h2 hv hok
 ·rename_i x i ho
  simp only[M.aX,Option.bind_eq_some_iff] at hv
  obtain⟨sx,h1,hv⟩:=hv
  split at hv
  ·rename_i vs
   split at hv
   ·rename_i v hvi
    simp only[M.ax,Option.some.injEq] at hv
    exact alf hR hd ho h1 hvi hv.symm
   ·simp at hv
  ·simp at hv
 ·rename_i fn first captured ho
  split at hv
  ·rename_i g asF
   simp only[M.aX,Option.bind_eq_some_iff,M.ax,Option.some.injEq] at hv
   obtain⟨cs,hcs,hv⟩:=hv
   exact aja hR hd ho asF hcs hv.symm
  ·simp at hv
 ·rename_i c ho
  split at hv
  ·rename_i g hg
   simp only[M.aX,Option.bind_eq_some_iff] at hv
   obtain⟨l,hl,hv⟩:=hv
   cases RJ:lkS Γ g with
   | none=>
    unfold S4 at hv
    rw[RJ] at hv
    simp at hv
   | some s=>
    cases vJ:s.ann with
    | true=>
     unfold S4 at hv
     rw[RJ] at hv
     simp only[vJ,cond_true] at hv
     simp at hv
    | false=>
    cases hp:s.pt with
    | some q=>
     obtain⟨t,cts⟩:=q
     cases dL:o.dst with
     | none=>
      unfold S4 at hv
      rw[RJ,dL] at hv
      simp only[vJ,cond_false,hp] at hv
      simp at hv
     | some d=>
      rw[dL] at hv
      exact anB DQ RJ vJ hp hR dL (hd d dL) (fun h=>lR h d dL) ho hg hl hv hok
    | none=>
    cases hm:s.ms with
    | nil=>
     cases dL:o.dst with
     | none=>
      unfold S4 at hv
      rw[RJ,dL] at hv
      simp only[vJ,cond_false,hp,hm] at hv
      simp at hv
     | some d=>
      rw[dL] at hv
      exact aop DQ RJ vJ hp hm hR dL (hd d dL) (fun h=>lR h d dL) ho hg hl hv hok
    | cons m ms=>
     have hv':(aa9 s o.dst l).val st.get st.obj=some e:=by
      unfold S4 at hv
      rw[RJ] at hv
      simp only[vJ,cond_false,hp,hm] at hv
      exact hv
     refine abS DQ RJ vJ hp (by rw[hm];simp) hR hd (fun d dL h=>lR h d dL) (us:=c.args.toList.map a.eval) (fun fn hf hb hn=> ?_) (fun β φ hc=>QC hc _ l hl) hv' hok
     have anw:c.args.map a.eval=(c.args.toList.map a.eval).toArray:=by rw[←Array.toList_map,Array.toArray_toList]
     rw[←anw]
     exact ai6 ho hg hf hb hn
  ·rename_i k hg
   simp only[M.aX,Option.bind_eq_some_iff] at hv
   obtain⟨s,hk,hv⟩:=hv
   split at hv
   ·rename_i g cs
    simp only[M.aX,Option.bind_eq_some_iff] at hv
    obtain⟨l,hl,hv⟩:=hv
    unfold arM at hv
    split at hv
    ·rename_i s RJ
     cases vJ:s.ann with
     | true=>simp [vJ] at hv
     | false=>
      simp only[vJ,cond_false] at hv
      split at hv
      ·rename_i m ms hp hm
       exact apA DQ RJ vJ hp (by rw[hm];simp) hR hd (fun d dL h=>lR h d dL) ho hg hk hl hv hok
      ·simp at hv
    ·simp at hv
   ·simp at hv
  ·rename_i hb
   split at hv
   ·rename_i x t hx ht
    simp only[M.aX,Option.bind_eq_some_iff] at hv
    obtain⟨s,h1,hv⟩:=hv
    exact aow hR hd ho hb (ajd hx) (ajd ht) h1 hv
   ·simp at hv
  ·rename_i hb
   split at hv
   ·rename_i x y hx
    simp only[M.aX,Option.bind_eq_some_iff] at hv
    obtain⟨s,h1,s2,h2,hv⟩:=hv
    exact XV (mx:=false) hR hd ho hb (lD hx) h1 h2 hv
   ·simp at hv
  ·rename_i hb
   split at hv
   ·rename_i x y hx
    simp only[M.aX,Option.bind_eq_some_iff] at hv
    obtain⟨s,h1,s2,h2,hv⟩:=hv
    exact XV (mx:=true) hR hd ho hb (lD hx) h1 h2 hv
   ·simp at hv
  ·rename_i hb
   split at hv
   ·rename_i s x t t' hx ht
    cases htt:Nat.beq t t'
    ·simp [htt] at hv
    simp only[htt,cond_true] at hv
    have aos:=Nat.eq_of_beq_eq_true htt
    subst aos
    simp only[M.aX,Option.bind_eq_some_iff] at hv
    obtain⟨ss,h1,sx,h2,hv⟩:=hv
    cases vJ:ale Γ o.dst with
    | true=>
     simp only[vJ,cond_true] at hv
     unfold aoX at hv
     split at hv
     ·rename_i et d hu dL
      split at hv
      ·rename_i ct ts hct hts
       cases hz1:eA P et ct.length && Nat.blt 0 ct.length
       ·simp [hz1] at hv
       simp only[hz1,cond_true,M.aX,Option.bind_eq_some_iff] at hv
       obtain⟨z,hz,hv⟩:=hv
       cases hzl:Nat.beq z.length ct.length
       ·simp [hzl] at hv
       simp only[hzl,cond_true,M.aX,Option.bind_eq_some_iff] at hv
       obtain⟨p,hqp,q,hqq,hv⟩:=hv
       cases hn:wQ (p.2++q.2)
       ·simp [hn] at hv
       simp only[hn,cond_true,M.ax,Option.some.injEq] at hv
       simp only[Bool.and_eq_true] at hz1
       have qV:Jd P et (p.1.length+q.1.length)=true:=by rw[←hv] at hok;exact hok
       exact alm hR dL (hd d dL) (lR (by rw[←hv];simp) d dL) ho hb (lD hx) (lD ht) h1 h2 hu hz1.1 (Nat.le_of_ble_eq_true hz1.2) hz (Nat.eq_of_beq_eq_true hzl) hqp hqq hn qV (by rw[←hv]) (by rw[←hv]) (by rw[←hv])
      ·simp at hv
     ·simp at hv
    | false=>
    simp only[vJ,cond_false] at hv
    unfold aoW at hv
    split at hv
    ·rename_i et d hu dL
     split at hv
     ·rename_i ct hct
      cases hz1:eA P et ct.length && Nat.blt 0 ct.length
      ·simp [hz1] at hv
      simp only[hz1,cond_true,M.aX,Option.bind_eq_some_iff] at hv
      obtain⟨z,hz,hv⟩:=hv
      cases hzl:Nat.beq z.length ct.length
      ·simp [hzl] at hv
      simp only[hzl,cond_true] at hv
      have asG:=Nat.eq_of_beq_eq_true hzl
      simp only[Bool.and_eq_true] at hz1
      have hpos:0<ct.length:=Nat.le_of_ble_eq_true hz1.2
      split at hv
      ·simp only[M.aX,Option.bind_eq_some_iff,M.ax,Option.some.injEq] at hv
       obtain⟨q,hq,hv⟩:=hv
       have qV:Jd P et q.1.length=true:=by rw[←hv] at hok;exact hok
       exact abh hR dL (hd d dL) (lR (by rw[←hv];simp) d dL) ho hb (lD hx) (lD ht) h1 h2 hu hz1.1 hpos hz asG hq qV (by rw[←hv]) (by rw[←hv]) (by rw[←hv])
      ·rename_i id
       simp only[M.eB,Option.bind_eq_some_iff] at hv
       obtain⟨ob,dT,hv⟩:=hv
       split at hv
       ·rename_i t' e' r u
        cases he:Nat.beq t' et && dG e' ct
        ·simp [he] at hv
        simp only[he,cond_true,M.aX,Option.bind_eq_some_iff] at hv
        obtain⟨q,hq,hv⟩:=hv
        cases hn:lU id q.2.1
        ·simp [hn] at hv
        simp only[hn,cond_true,M.ax,Option.some.injEq] at hv
        simp only[Bool.and_eq_true] at he
        have e1:=Nat.eq_of_beq_eq_true he.1
        have e2:=dR _ _ he.2
        subst e1 e2
        have qV:Jd P t' (r.length+q.1.length)=true:=by rw[←hv] at hok;exact hok
        exact abi hR dL (hd d dL) (lR (by rw[←hv];simp) d dL) ho hb (lD hx) (lD ht) h1 h2 dT hu hz1.1 hpos hz asG hq hn qV (by rw[←hv]) (by rw[←hv]) (by rw[←hv])
       ·simp at hv
      ·rename_i id lo z0
       simp only[M.eB,Option.bind_eq_some_iff] at hv
       obtain⟨ob,dT,hv⟩:=hv
       split at hv
       ·rename_i t' e' r u
        cases he:Nat.beq t' et && dG e' ct && Nat.beq z0 ct.length && cg ct
        ·simp [he] at hv
        simp only[he,cond_true,M.aX,Option.bind_eq_some_iff] at hv
        obtain⟨q,hq,hv⟩:=hv
        cases hn:lU id q.2.1
        ·simp [hn] at hv
        simp only[hn,cond_true,M.ax,Option.some.injEq] at hv
        simp only[Bool.and_eq_true] at he
        have e1:=Nat.eq_of_beq_eq_true he.1.1.1
        have e2:=dR _ _ he.1.1.2
        have e3:=Nat.eq_of_beq_eq_true he.1.2
        subst e1 e2 e3
        have qV:Jd P t' ((r.drop lo).length+q.1.length)=true∧lo≤r.length:=by
         rw[←hv] at hok
         simp only[Bool.and_eq_true,decide_eq_true_eq] at hok
         exact hok
        exact alj hR hd ho hb (lD hx) (lD ht) h1 h2 dT hu he.2 hz1.1 hpos hz asG hq hn qV.2 qV.1 (by rw[←hv]) (by rw[←hv]) (by rw[←hv])
       ·simp at hv
      ·simp at hv
     ·simp at hv
    ·simp at hv
   ·simp at hv
  ·rename_i hb
   split at hv
   ·rename_i s x t t' hx ht
    simp only[M.aX,Option.bind_eq_some_iff] at hv
    obtain⟨ss,h1,sx,h2,hv⟩:=hv
    exact aot hR hd ho hb (lD hx) (lD ht) h1 h2 hv hok
   ·simp at hv
  ·simp at hv
 ·simp at hv
end Go.Proofs.YthpmalpdnnbkgaaGreat.Vm
namespace Go.Proofs.YthpmalpdnnbkgaaGreat.Vm
structure Tr (st st':St):Prop where
 n:st'.n=st.n
 ok:st.ok=true
 get:∀i,i ∉ st'.ls→st'.get i=st.get i
 ls:∀i∈st.ls,i∈st'.ls
 obj:∀id o,st.obj id=some o→id ∉ st'.lm→st'.obj id=some o
 lm:∀i∈st.lm,i∈st'.lm
theorem Tr.refl {st:St} (h:st.ok=true):Tr st st:=⟨rfl,h,fun _ _=>rfl,fun _ h=>h,fun _ _ h _=>h,fun _ h=>h⟩
theorem Tr.trans {a b c:St} (h:Tr a b) (k:Tr b c):Tr a c:=
 ⟨k.n.trans h.n,h.ok,fun i hi=>(k.get i hi).trans (h.get i (fun h'=>hi (k.ls i h'))),fun i hi=>k.ls i (h.ls i hi),
  fun id o ho hi=>k.obj id o (h.obj id o ho (fun h'=>hi (k.lm id h'))) hi,fun i hi=>k.lm i (h.lm i hi)⟩
theorem aqA {ow:List (Nat×Option bP)} {h:Nat→Option bP} {j:Nat} (hj:j ∉ ow.map (·.1)):fo ow h j=h j:=by
 induction ow with
 | nil=>rfl
 | cons x l ih=>
  obtain⟨i,ob⟩:=x
  simp only[List.map_cons,List.mem_cons,not_or] at hj
  simp only[fo,dB,hj.1,if_false]
  exact ih hj.2
theorem anJ {st:St} {d:Option Nat} {e:u4} (hok:(st.apply d e).ok=true):Tr st (st.apply d e):=by
 have om:st.ok=true:=by
  simp only[St.apply,Kk] at hok
  exact hok.1.1
 refine⟨rfl,om,fun i hi=> ?_,fun i hi=> ?_,fun id o ho hi=> ?_,fun i hi=> ?_⟩
 ·cases d with
  | none=>rfl
  | some d=>
   have hi':i≠d:=fun h=>hi (by simp [St.apply,h])
   rw[apply_get]
   simp [dB,hi']
 ·cases d<;>simp [St.apply,hi]
 ·rw[HK]
  simp only[St.apply,List.mem_append,not_or] at hi
  rw[aqA hi.2.1]
  cases XO:e.cw with
  | none=>exact ho
  | some x=>
   obtain⟨k,off,lE⟩:=x
   simp only[XO,List.mem_singleton] at hi
   rw[←ho]
   simp only[fc]
   cases st.obj k with
   | none=>rfl
   | some b=>cases b<;>simp [dB,hi.1]
 ·simp only[St.apply,List.mem_append]
  exact .inr (.inr hi)
theorem eR {st:St} :st.fail.ok=false:=rfl
theorem apd {P:Program} {Γ:Ctx} {st:St} {o:Oper} (hok:(st.tT P Γ o).ok=true):Tr st (st.tT P Γ o):=by
 unfold St.tT at hok ⊢
 split
 ·rename_i e r hr
  simp only[hr] at hok
  cases hf:XK o.dst e st
  ·simp [hf,eR] at hok
  ·simp only[hf,cond_true] at hok ⊢
   exact anJ hok
 ·rename_i hr
  simp [hr,eR] at hok
theorem aje (st:St) (s:Nat) (b:Bool):(st.Lp s b).get=dB st.get s (.kb b):=by
 funext i
 show UQ ((s,.kb b)::st.sl) i=_
 simp only[UQ,dB,St.get]
 cases hk:Nat.beq s i
 ·have e2:=Nat.ne_of_beq_eq_false hk
  rw[if_neg (fun h=>e2 h.symm)]
  rfl
 ·simp [(Nat.eq_of_beq_eq_true hk).symm]
theorem X9 {st:St} {s:Nat} {b:Bool} (hok:st.ok=true):Tr st (st.Lp s b):=by
 refine⟨rfl,hok,fun i hi=> ?_,fun i hi=>by simp [St.Lp,hi],fun _ _ h _=>h,fun _ h=>h⟩
 rw[aje]
 have:i≠s:=fun h=>hi (by simp [St.Lp,h])
 simp [dB,this]
theorem MB {i:Nat} {l:List Nat} :PL i l=true↔i∈l:=by
 induction l with
 | nil=>simp [PL]
 | cons k l ih=>
  simp only[PL,Bool.or_eq_true,List.mem_cons,ih]
  constructor
  ·rintro (h | h)
   ·exact .inl (Nat.eq_of_beq_eq_true h).symm
   ·exact .inr h
  ·rintro (rfl | h)
   ·exact .inl (Nat.beq_refl i)
   ·exact .inr h
theorem alJ {i:Nat} {l:List Nat} :i∈dedup l↔i∈l:=by
 induction l with
 | nil=>simp [dedup]
 | cons k l ih=>
  simp only[dedup]
  cases hm:PL k l
  ·simp [ih]
  ·simp only[cond_true,List.mem_cons,ih]
   constructor
   ·exact .inr
   ·rintro (rfl | h)
    ·exact MB.1 hm
    ·exact h
theorem Qf {g:Bool} {f h:Nat→SV} {l:List (Nat×SV)} :∀(r:List Nat) (i:Nat),UQ (M0 g f h r l) i=if i∈r then Hx g (f i) (h i) else UQ l i
 | [],i=>by simp [M0]
 | k::r,i=>by
  simp only[M0,UQ]
  cases hk:Nat.beq k i
  ·have e2:=Nat.ne_of_beq_eq_false hk
   simp only[cond_false,Qf r i,List.mem_cons]
   by_cases hi:i∈r
   ·simp [hi]
   ·rw[if_neg hi,if_neg (fun h=>h.elim (fun h=>e2 h.symm) hi)]
  ·have e1:=Nat.eq_of_beq_eq_true hk
   subst e1
   simp
theorem Qg {hp:List (Nat×bP)} :∀ {l:List Nat} {i:Nat},i∈tS hp l↔i∈l∧∃o,Bt hp i=some o
 | [],i=>by simp [tS]
 | k::l,i=>by
  simp only[tS]
  cases hk:Bt hp k with
  | none=>
   simp only[Qg (l:=l),List.mem_cons]
   constructor
   ·rintro ⟨h1,h2⟩
    exact⟨.inr h1,h2⟩
   ·rintro ⟨rfl | h1,h2⟩
    ·rw[hk] at h2;obtain⟨o,h2⟩:=h2;cases h2
    ·exact⟨h1,h2⟩
  | some o=>
   simp only[List.mem_cons,Qg (l:=l)]
   constructor
   ·rintro (rfl | ⟨h1,h2⟩)
    ·exact⟨.inl rfl,o,hk⟩
    ·exact⟨.inr h1,h2⟩
   ·rintro ⟨rfl | h1,h2⟩
    ·exact .inl rfl
    ·exact .inr ⟨h1,h2⟩
theorem ajf {g:Bool} {f k h:Nat→Option bP} :∀(l:List Nat) (i:Nat),fo (XJ g f k l) h i=if i∈l then aiQ g (f i) (k i) else h i
 | [],i=>by simp [XJ,fo]
 | j::l,i=>by
  simp only[XJ,fo,dB,List.mem_cons]
  by_cases hi:i=j
  ·subst hi;simp
  ·simp only[hi,if_false,false_or]
   exact ajf l i
theorem alK (pre:St) (g:Bool) (a b:St) (i:Nat):(merge pre g a b).obj i=if i∈tS pre.hp (dedup (a.lm++b.lm)) then aiQ g (a.obj i) (b.obj i) else pre.obj i:=by
 show Bt (aiP _ pre.hp) i=_
 rw[XN,ajf]
 rfl
theorem anK {pre a b:St} {g:Bool} (hp:pre.ok=true) (aue:(merge pre g a b).ok=true):Tr pre (merge pre g a b):=by
 refine⟨rfl,hp,fun i hi=> ?_,fun i hi=>List.mem_append_right _ hi,fun i o h hi=> ?_,fun i h=>List.mem_append_right _ h⟩
 ·have hi:i ∉ dedup (a.ls++b.ls)∧i ∉ pre.ls:=by simpa only[merge,List.mem_append,not_or] using hi
  show UQ (M0 g a.get b.get (dedup (a.ls++b.ls)) pre.sl) i=UQ pre.sl i
  rw[Qf,if_neg hi.1]
 ·have hi:i ∉ tS pre.hp (dedup (a.lm++b.lm)):=fun h'=>hi (List.mem_append_left _ h')
  rw[alK,if_neg hi]
  exact h
theorem Core.sub {w0:World} {S:Own} {f f':Nat→SV} {h h':Nat→Option bP} {β:Env} {φ:Nat→List Nat} {tm:Array Value} {w:World} (hc:Core w0 S f h β φ tm w)
  (hh:∀j o,h' j=some o→h j=some o∨∃t cs cs',o= .box t cs'∧h j=some (.box t cs)∧∀vs,bt w (Av h' β) β cs vs→bt w (Av h' β) β cs' vs)
  (hf:∀i v,bX w (Av h' β) β (f i) v→bX w (Av h' β) β (f' i) v):Core w0 S f' h' β φ tm w:=by
 have aqB:∀j o,h' j=some o→∃o',h j=some o'∧cb β j o=cb β j o':=by
  intro j o ho
  rcases hh j o ho with h1 | ⟨t,cs,cs',rfl,h1,_⟩
  ·exact⟨o,h1,rfl⟩
  ·exact⟨_,h1,rfl⟩
 have tU:∀b,Av h' β b→Av h β b:=fun b hb=>hb.imp (fun ⟨j,o,hj,hb⟩=>by
  obtain⟨o',h1,h2⟩:=aqB j o hj
  exact⟨j,o',h1,h2 ▸ hb⟩) id
 have hm:=hc.step (h':=h') (β':=β) (φ':=φ) (w':=w) (fun _=>False) (Nat.le_refl _) (fun _ _ _=>rfl) (fun b hb=> .inl (tU b hb)) (fun _ _ _ h=>h) (fun _ _=>⟨rfl,rfl⟩)
  (fun id o ho=>by
   rcases hh id o ho with h1 | ⟨t,cs,cs',rfl,h1,h2⟩
   ·exact .inl ⟨fun h=>h,h1,rfl,fun _ _ h=>h,fun _ _=>rfl⟩
   ·refine .inr ⟨?_,hc.fresh id _ h1⟩
    have h3:=(hc.dA id _ h1).mono (w':=w) (av':=Av h' β) (β':=β) (Nat.le_refl _) (fun _ _ _=>rfl) (fun b hb=> .inl (tU b hb)) (fun _ _=>⟨rfl,rfl⟩) (fun _ _=>rfl) rfl
    obtain⟨vs,e1,e2,e3,e4⟩:=h3
    exact⟨vs,e1,h2 vs e2,e3,e4⟩)
  (fun i j o p sV hi hj b hb=>by
   obtain⟨o',h1,_⟩:=aqB i o hi
   obtain⟨p',h2,_⟩:=aqB j p hj
   exact hc.sep i j o' p' sV h1 h2 b hb)
 exact⟨fun i=>hf i _ (hm.bJ i),hm.dA,hm.fresh,hm.sep,hm.Ol,hm.bars⟩
theorem apD {w:World} {av:Nat→Prop} {β:Env} {g:Bool} {x y:Option bP} {o:bP} (h:aiQ g x y=some o):
  (bif g then x else y)=some o∨∃t cs cs',o= .box t cs'∧(bif g then x else y)=some (.box t cs)∧∀vs,bt w av β cs vs→bt w av β cs' vs:=by
 unfold aiQ at h
 split at h
 ·rename_i t cs t' cs'
  cases hc:Nat.beq t t' && Nat.beq cs.length cs'.length
  ·simp [hc] at h
  ·simp only[hc,cond_true,Option.some.injEq] at h
   simp only[Bool.and_eq_true] at hc
   have ht:=Nat.eq_of_beq_eq_true hc.1
   have hl:=Nat.eq_of_beq_eq_true hc.2
   subst ht h
   refine .inr ⟨t,bif g then cs else cs',_,rfl,by cases g<;>rfl,fun vs hv=>bt.merge g cs cs' vs hl hv⟩
 ·rename_i t e r fz u t' e' r' fz' u'
  cases hc:Nat.beq t t' && dG e e' && (fz==fz') && (u==u')
  ·simp [hc] at h
  ·simp only[hc,cond_true,Option.some.injEq] at h
   simp only[Bool.and_eq_true] at hc
   have ht:=Nat.eq_of_beq_eq_true hc.1.1.1
   have he:=dR _ _ hc.1.1.2
   have hf:fz=fz':=by simpa using hc.1.2
   have hu:u=u':=by simpa using hc.2
   subst ht he hf hu h
   refine .inl ?_
   cases g<;>rfl
 ·cases h
theorem MC {w0:World} {S:Own} {pre yes no:St} {g:Bool} {a:Act} {w:World} (hy:g=true→Tr pre.reset yes∧Rel w0 S yes a w) (hn:g=false→Tr pre.reset no∧Rel w0 S no a w)
  (aue:(merge pre g yes no).ok=true):Rel w0 S (merge pre g yes no) a w:=by
 have key:∀r:St,Tr pre.reset r→Rel w0 S r a w→(∀i∈r.ls,i∈yes.ls++no.ls)→(∀i∈r.lm,i∈yes.lm++no.lm)→(∀i v av β,bX w av β (r.get i) v→bX w av β (Hx g (yes.get i) (no.get i)) v)→
   (∀i,(bif g then yes.obj i else no.obj i)=r.obj i)→Rel w0 S (merge pre g yes no) a w:=by
  intro r ht hr hls hlm hmg hro
  obtain⟨β,φ,hc⟩:=hr.core
  refine⟨hr.size.trans (congrArg (· % 1099511627776) ht.n),fun x hx=>by have h1:=hr.fx x hx;rw[ht.n] at h1;exact h1,hr.defers,hr.kept,β,φ, ?_⟩
  refine hc.sub (fun j o ho=> ?_) (fun i v hv=> ?_)
  ·rw[alK] at ho
   split at ho
   ·have:=apD (w:=w) (av:=Av (merge pre g yes no).obj β) (β:=β) ho
    rw[hro j] at this
    exact this
   ·rename_i hj
    refine .inl (ht.obj j o ho (fun h=>hj ?_))
    exact Qg.2 ⟨alJ.2 (hlm j h),o,ho⟩
  ·show bX w _ β (UQ (M0 g yes.get no.get (dedup (yes.ls++no.ls)) pre.sl) i) v
   rw[Qf]
   split
   ·exact hmg i v _ β hv
   ·rename_i hi
    have:r.get i=pre.get i:=ht.get i (fun h=>hi (alJ.2 (hls i h)))
    rw[this] at hv
    exact hv
 cases g with
 | true=>
  obtain⟨ht,hr⟩:=hy rfl
  exact key yes ht hr (fun i hi=>List.mem_append_left _ hi) (fun i hi=>List.mem_append_left _ hi) (fun i v av β hv=>bX.merge true _ _ _ hv) (fun _=>rfl)
 | false=>
  obtain⟨ht,hr⟩:=hn rfl
  exact key no ht hr (fun i hi=>List.mem_append_right _ hi) (fun i hi=>List.mem_append_right _ hi) (fun i v av β hv=>bX.merge false _ _ _ hv) (fun _=>rfl)
theorem Rel.reset {w0:World} {S:Own} {st:St} {a:Act} {w:World} (h:Rel w0 S st a w):Rel w0 S st.reset a w:=⟨h.size,h.fx,h.defers,h.kept,h.core⟩
theorem Rel.Lp {w0:World} {S:Own} {st:St} {a:Act} {w:World} (h:Rel w0 S st a w) {s:Nat} {b:Bool} (hs:a.tmps.getD s undef= .bool b):Rel w0 S (st.Lp s b) a w:=by
 obtain⟨β,φ,hc⟩:=h.core
 refine⟨h.size,h.fx,h.defers,h.kept,β,φ, ?_⟩
 rw[aje]
 exact⟨fun i=>by
  by_cases hi:i=s
  ·subst hi
   simp only[dB,if_true,bX]
   exact hs
  ·have:=hc.bJ i
   show bX w (Av st.obj β) β _ _
   simpa only[dB,hi,if_false] using this,hc.dA,hc.fresh,hc.sep,hc.Ol,hc.bars⟩
theorem Rel.alL {w0:World} {S:Own} {st:St} {a:Act} {w:World} (h:Rel w0 S st a w) {s:Nat} {g:Bool} (hs:st.get s= .bool g):a.tmps.getD s undef= .bool g:=by
 obtain⟨β,φ,hc⟩:=h.core
 have:=hc.bJ s
 rw[hs] at this
 simpa only[bX] using this
theorem eW {P:Program} {Γ:Ctx} {ops:Array Oper} {gs:List Nat} {chk:List sP→Bool} :∀(rest:List Oper) (i:Nat) (acc:List sP) (st:St),(eL P Γ ops gs chk rest i acc st).ok=true→
  Tr st (eL P Γ ops gs chk rest i acc st)
 | [],i,acc,st,h=>by
  simp only[eL] at h ⊢
  simp only[Kk] at h
  exact⟨rfl,h.1,fun _ _=>rfl,fun _ h=>h,fun _ _ h _=>h,fun _ h=>h⟩
 | o::rest,i,acc,st,h=>by
  rw[eL] at h ⊢
  split
  ·rename_i hw;simp [hw,eR] at h
  ·rename_i hw
   simp only[hw] at h
   have h1:=eW rest _ _ _ h
   exact (anJ h1.ok).trans h1
  ·rename_i hw
   simp only[hw] at h
   have plain:(eL P Γ ops gs chk rest (i+1) (acc++[jJ P Γ ops i st o]) (st.tT P Γ o)).ok=true→Tr st (eL P Γ ops gs chk rest (i+1) (acc++[jJ P Γ ops i st o]) (st.tT P Γ o)):=by
    intro h'
    have h1:=eW rest _ _ _ h'
    exact (apd h1.ok).trans h1
   split
   ·rename_i hd
    simp only[hd] at h
    exact plain h
   ·rename_i s hd
    simp only[hd] at h
    cases hm:PL s gs
    ·simp only[hm,cond_false] at h ⊢
     exact plain h
    ·simp only[hm,cond_true] at h ⊢
     split
     ·rename_i g hg
      simp only[hg] at h
      have apE:(st.tT P Γ o).ok=true:=by
       have h':=h
       simp only[merge,al7] at h'
       cases g with
       | true=>simp only[cond_true] at h';exact (eW rest _ _ _ h').ok
       | false=>simp only[cond_false] at h';exact (eW rest _ _ _ h').ok
      exact (apd apE).trans (anK apE h)
     ·rename_i hg
      have h':(eL P Γ ops gs chk rest (i+1) (acc++[jJ P Γ ops i st o]) (st.tT P Γ o)).ok=true:=by
       revert h
       split
       ·rename_i g hg';exact absurd hg' (hg g)
       ·exact id
      exact plain h'
end Go.Proofs.YthpmalpdnnbkgaaGreat.Vm
set_option linter.unusedVariables false
set_option linter.unusedSimpArgs false
namespace Go.Proofs.YthpmalpdnnbkgaaGreat.Vm
theorem U3 {ds l:List Nat} (h:aiR ds l=true):∀i∈l,i / 64 ∉ ds:=by
 induction l with
 | nil=>simp
 | cons k l ih=>
  simp only[aiR,Bool.and_eq_true,Bool.not_eq_true'] at h
  intro i hi
  rcases List.mem_cons.1 hi with rfl | hi
  ·intro hm
   rw[MB.2 hm] at h
   simp at h
  ·exact ih h.2 i hi
theorem arE {l:List (Nat×SV)} {i:Nat} :UQ l i= .Jq∨∃x∈l,UQ l i=x.2:=by
 induction l with
 | nil=>exact .inl rfl
 | cons y l ih=>
  obtain⟨k,s⟩:=y
  simp only[UQ]
  cases Nat.beq k i
  ·rcases ih with h | ⟨x,hx,h⟩
   ·exact .inl h
   ·exact .inr ⟨x,List.mem_cons_of_mem _ hx,h⟩
  ·exact .inr ⟨_,List.mem_cons_self ..,rfl⟩
theorem ape {l:List (Nat×bP)} {i:Nat} {ob:bP} (h:Bt l i=some ob):(i,ob)∈l:=by
 induction l with
 | nil=>simp [Bt] at h
 | cons y l ih=>
  obtain⟨k,s⟩:=y
  simp only[Bt] at h
  cases hk:Nat.beq k i
  ·simp only[hk,cond_false] at h
   exact List.mem_cons_of_mem _ (ih h)
  ·simp only[hk,cond_true,Option.some.injEq] at h
   rw[Nat.eq_of_beq_eq_true hk,h]
   exact List.mem_cons_self ..
theorem anL {ds:List Nat} {st:St} (h:FZ ds st=true):∀d∈ds,jr st d:=by
 intro d hd
 simp only[FZ,Bool.and_eq_true,List.all_eq_true] at h
 constructor
 ·intro i j hj
  rcases arE (l:=st.sl) (i:=i) with h0 | ⟨x,hx,h0⟩
  ·have:st.get i= .Jq:=h0
   rw[this] at hj
   simp [l5] at hj
  ·have:st.get i=x.2:=h0
   rw[this] at hj
   exact fun e=>U3 (h.1 x hx) j hj (e ▸ hd)
 ·intro j ob hj
  have hm:=h.2 _ (ape hj)
  refine⟨fun e=>U3 hm j (List.mem_cons_self ..) (e ▸ hd),fun k hk e=>U3 hm k (List.mem_cons_of_mem _ hk) (e ▸ hd)⟩
section
variable {P:Program} {Γ:Ctx} {w0:World} {S:Own} {ops:Array Oper} {gs:List Nat}
theorem ajg {st:St} {o:Oper} (h:(st.tT P Γ o).ok=true):∃e s r,(evalOp P Γ o).run st.get st.obj=some (e,s,r)∧XK o.dst e st=true∧st.tT P Γ o=st.apply o.dst e:=by
 unfold St.tT at h ⊢
 split at h
 ·rename_i e r hr
  obtain⟨s,r⟩:=r
  cases hf:XK o.dst e st
  ·simp [hf,eR] at h
  ·exact⟨e,s,r,hr,hf,by simp [hr,hf]⟩
 ·simp [eR] at h
theorem alM (DQ:ai P Γ) {st:St} {o:Oper} {a:Act} {w:World} (hR:Rel w0 S st a w) (h:(st.tT P Γ o).ok=true) (Q:Exit→Act→World→Prop):
  o.wp P a w (fun a' w'=>∃v,a'=a.put o.dst v∧Rel w0 S (st.tT P Γ o) a' w') Q:=by
 obtain⟨e,s,r,hr,hf,he⟩:=ajg h
 rw[he] at h ⊢
 simp only[St.apply,Kk] at h
 refine anI DQ hR (M.EG _ hr) h.1.2 (fun d hd=> ?_) (fun how d hd=> ?_) Q
 ·have:=h.2
  rw[hd] at this
  exact afC this
 ·unfold XK at hf
  rw[hd] at hf
  split at hf
  ·rename_i d' _ hd'
   injection hd' with hd'
   subst hd'
   exact anL hf d (List.mem_singleton.2 rfl)
  ·rename_i hno
   cases hw:e.ow with
   | nil=>exact absurd hw how
   | cons x l=>exact (hno x l d hw rfl).elim
theorem abn {st:St} {o:Oper} {a:Act} {w:World} {b:Bool} (hR:Rel w0 S st a w) (h:Jf ops st o=some b):Region.wanted o (yielded ops a.tmps)=b:=by
 obtain⟨β,φ,hc⟩:=hR.core
 unfold Jf at h
 unfold Region.wanted
 split at h
 ·rename_i hg
  simp only[hg]
  simpa using h
 ·rename_i j want hg
  simp only[hg]
  split at h
  ·cases h
  ·rename_i s hs
   have hsl:=hc.bJ s
   split at h
   ·rename_i b' hb'
    rw[hb'] at hsl
    simp only[bX] at hsl
    have:a.tmps[s]? =some (.bool b'):=by
     rw[Array.getD_eq_getD_getElem?] at hsl
     cases hq:a.tmps[s]? with
     | none=>rw[hq] at hsl;simp [undef] at hsl
     | some v=>rw[hq] at hsl;simpa using hsl
    simp only[yielded,hs,Option.bind_some,this]
    have h:=Option.some.inj h
    rw[←h]
    rfl
   ·rename_i hb'
    rw[hb'] at hsl
    simp only[bX] at hsl
    have:∀c,a.tmps[s]? ≠some (.bool c):=by
     intro c hq
     rw[Array.getD_eq_getD_getElem?,hq] at hsl
     simp [undef] at hsl
    have hy:yielded ops a.tmps j=none:=by
     unfold yielded
     rw[hs]
     simp only[Option.bind_some]
    rw[hy]
    have h:=Option.some.inj h
    rw[←h]
    rfl
   ·cases h
theorem aqC {st:St} {o:Oper} {a:Act} {w:World} (hR:Rel w0 S st a w) (h:(st.skip o.dst).ok=true):Rel w0 S (st.skip o.dst) (a.put o.dst undef) w:=by
 obtain⟨β,φ,hc⟩:=hR.core
 refine M4 hR (fun d hd=> ?_) hR.kept ⟨β,φ,hc,by simp [bX]⟩
 simp only[St.skip,St.apply,Kk] at h
 have:=h.2
 rw[hd] at this
 exact afC this
theorem Rel.arY {st:St} {a:Act} {w:World} (hR:Rel w0 S st a w) (b:Bool):Rel w0 S {st with ok:=b} a w:=⟨hR.size,hR.fx,hR.defers,hR.kept,hR.core⟩
theorem wV {pre a b:St} {g:Bool} (h:(merge pre g a b).ok=true):(g=true→a.ok=true)∧(g=false→b.ok=true):=by
 simp only[merge,al7] at h
 cases g
 ·exact⟨by simp,fun _=>h⟩
 ·exact⟨fun _=>h,by simp⟩
theorem F3 (DQ:ai P Γ) {chk:List sP→Bool} {Q:Exit→Act→World→Prop} :∀(rest:List Oper) (i:Nat) (acc:List sP) (st:St) (a:Act) (w:World),Rel w0 S st a w→
  (eL P Γ ops gs chk rest i acc st).ok=true→(∀a' w',Rel w0 S (eL P Γ ops gs chk rest i acc st) a' w'→Q .normal a' w')→wpList P ops Q rest a w
 | [],i,acc,st,a,w,hR,hok,hQ=>by
  simp only[eL] at hQ
  exact hQ a w (hR.arY _)
 | o::rest,i,acc,st,a,w,hR,hok,hQ=>by
  rw[eL] at hok hQ
  cases hw:Jf ops st o with
  | none=>simp [hw,eR] at hok
  | some b=>
   simp only[hw] at hok hQ
   have alN:=abn hR hw
   unfold wpList
   cases b with
   | false=>
    rw[if_neg (by rw[alN];simp)]
    simp only at hok hQ
    exact F3 DQ rest _ _ _ _ w (aqC hR (eW rest _ _ _ hok).ok) hok hQ
   | true=>
    rw[if_pos alN]
    simp only at hok hQ
    refine .inl ?_
    have plain:(eL P Γ ops gs chk rest (i+1) (acc++[jJ P Γ ops i st o]) (st.tT P Γ o)).ok=true→
      (∀a' w',Rel w0 S (eL P Γ ops gs chk rest (i+1) (acc++[jJ P Γ ops i st o]) (st.tT P Γ o)) a' w'→Q .normal a' w')→o.wp P a w (wpList P ops Q rest) Q:=by
     intro h1 h2
     have hd:=(eW rest _ _ _ h1).ok
     refine Oper.wp_mono ?_ (alM DQ hR hd Q)
     rintro a' w' ⟨v,rfl,GW⟩
     exact F3 DQ rest _ _ _ _ w' GW h1 h2
    split at hok
    ·rename_i hd
     simp only[hd] at hQ
     exact plain hok hQ
    ·rename_i s hd
     simp only[hd] at hQ
     cases hm:PL s gs
     ·simp only[hm,cond_false] at hok hQ
      exact plain hok hQ
     ·simp only[hm,cond_true] at hok hQ
      split at hok
      ·rename_i g hg
       simp only[hg] at hQ
       have hsp:=wV hok
       have apE:(st.tT P Γ o).ok=true:=by
        cases g with
        | true=>exact (eW rest _ _ _ (hsp.1 rfl)).ok
        | false=>exact (eW rest _ _ _ (hsp.2 rfl)).ok
       refine Oper.wp_mono ?_ (alM DQ hR apE Q)
       rintro a' w' ⟨v,rfl,GW⟩
       have D2:=GW.alL hg
       cases g with
       | true=>
        have hy:=hsp.1 rfl
        refine F3 DQ rest (i+1) (acc++[jJ P Γ ops i st o]) ((st.tT P Γ o).reset.Lp s true) _ w' (GW.reset.Lp D2) hy ?_
        intro a'' w'' h''
        exact hQ a'' w'' (MC (fun _=>⟨(X9 (st:=(st.tT P Γ o).reset) apE).trans (eW rest _ _ _ hy),h''⟩) (by simp) hok)
       | false=>
        have hn:=hsp.2 rfl
        refine F3 DQ rest (i+1) (acc++[jJ P Γ ops i st o]) ((st.tT P Γ o).reset.Lp s false) _ w' (GW.reset.Lp D2) hn ?_
        intro a'' w'' h''
        exact hQ a'' w'' (MC (by simp) (fun _=>⟨(X9 (st:=(st.tT P Γ o).reset) apE).trans (eW rest _ _ _ hn),h''⟩) hok)
      ·rename_i hg
       have hQ':∀a' w',Rel w0 S (eL P Γ ops gs chk rest (i+1) (acc++[jJ P Γ ops i st o]) (st.tT P Γ o)) a' w'→Q .normal a' w':=by
        revert hQ
        split
        ·rename_i g hg';exact absurd hg' (hg g)
        ·exact id
       exact plain hok hQ'
theorem alO {draw:Bool} {st:St} (h:(oc P Γ ops draw st).ok=true):Tr st (oc P Γ ops draw st):=by
 unfold oc at h ⊢
 cases draw
 ·simp only[cond_false] at h ⊢
  exact eW _ _ _ _ h
 ·simp only[cond_true] at h ⊢
  cases hf:FZ (afq ops.toList) st && M1 ops.toList 0 && P.follows .mixedOrders
  ·simp [hf,eR] at h
  ·simp only[hf,cond_true] at h ⊢
   exact eW _ _ _ _ h
theorem aoC (DQ:ai P Γ) {st:St} {a:Act} {w:World} {id:Nat} {Q:Exit→Act→World→Prop} (hR:Rel w0 S st a w) (h:(oc P Γ ops false st).ok=true)
  (hQ:∀a' w',Rel w0 S (oc P Γ ops false st) a' w'→Q .normal a' w'):(Code.region id ops false).wp P Q a w:=by
 unfold oc at h hQ
 simp only[cond_false] at h hQ
 exact wp_region_list (F3 DQ _ _ _ _ a w hR h hQ)
end
end Go.Proofs.YthpmalpdnnbkgaaGreat.Vm
set_option linter.unusedVariables false
set_option linter.unusedSimpArgs false
namespace Go.Proofs.YthpmalpdnnbkgaaGreat.Vm
theorem M.abo {α:Type} {f f':Nat→SV} {h h':Nat→Option bP} :∀(m:M α) {a:α} {s o:List Nat},m.run f h=some (a,s,o)→(∀i∈s,f' i=f i)→(∀i∈o,h' i=h i)→m.run f' h'=some (a,s,o)
 | .pure a,_,_,_,e,_,_=>by simpa [M.run] using e
 | .fail,_,_,_,e,_,_=>by simp [M.run] at e
 | .slot i k,a,s,o,e,hs,ho=>by
  simp only[M.run] at e ⊢
  split at e
  ·rename_i b s' o' hk
   simp only[Option.some.injEq,Prod.mk.injEq] at e
   obtain⟨rfl,rfl,rfl⟩:=e
   rw[hs i (List.mem_cons_self ..),M.abo (k (f i)) hk (fun j hj=>hs j (List.mem_cons_of_mem _ hj)) ho]
  ·cases e
 | .obj i k,a,s,o,e,hs,ho=>by
  simp only[M.run] at e ⊢
  split at e
  ·rename_i x hx
   split at e
   ·rename_i b s' o' hk
    simp only[Option.some.injEq,Prod.mk.injEq] at e
    obtain⟨rfl,rfl,rfl⟩:=e
    rw[ho i (List.mem_cons_self ..),hx]
    simp only
    rw[M.abo (k x) hk hs (fun j hj=>ho j (List.mem_cons_of_mem _ hj))]
   ·cases e
  ·cases e
structure PS where
 i:Nat
 o:Oper
 run:Bool
 st:St
 e:u4
 log:sP
def PS.f (p:PS) (s:Nat) (v:SV):SV:=if p.o.dst=some s then p.e.sv else v
def lkW:List (Nat×Option bP)→Nat→Option (Option bP)
 | [],_=>none
 | (i,x)::l,j=>if j=i then some x else lkW l j
def aqD (cw:Option (Nat×Nat×List SV)) (id:Nat) (v:Option bP):Option bP:=
 match cw with
 | some (i,off,lE)=>if id=i then (match v with | some (.box t cells)=>some (.box t (tR cells off lE)) | o=>o) else v
 | none=>v
def PS.h (p:PS) (id:Nat) (v:Option bP):Option bP:=
 match lkW p.e.ow id with
 | some x=>x
 | none=>aqD p.e.cw id v
theorem atp (cw:Option (Nat×Nat×List SV)) (h:Nat→Option bP) (id:Nat):fc cw h id=aqD cw id (h id):=by
 cases cw with
 | none=>rfl
 | some x=>
  obtain⟨i,off,lE⟩:=x
  simp only[fc,aqD]
  by_cases hi:id=i
  ·subst hi
   rw[if_pos rfl]
   cases hh:h id with
   | none=>simp [hh]
   | some b=>cases b<;>simp [dB,hh]
  ·rw[if_neg hi]
   cases h i with
   | none=>rfl
   | some b=>cases b<;>simp [dB,hi]
theorem atq (ow:List (Nat×Option bP)) (h:Nat→Option bP) (id:Nat):fo ow h id=match lkW ow id with | some x=>x | none=>h id:=by
 induction ow with
 | nil=>rfl
 | cons x l ih=>
  obtain⟨i,ob⟩:=x
  simp only[fo,dB,lkW]
  split
  ·rfl
  ·exact ih
theorem X_ (st:St) (p:PS) (id:Nat):(st.apply p.o.dst p.e).obj id=p.h id (st.obj id):=by
 rw[HK,atq]
 unfold PS.h
 rw[atp]
theorem afI (st:St) (p:PS) (s:Nat):(st.apply p.o.dst p.e).get s=p.f s (st.get s):=by
 unfold PS.f
 cases hd:p.o.dst with
 | none=>simp [PO]
 | some d=>
  rw[apply_get]
  simp only[dB,Option.some.injEq]
  by_cases hs:s=d
  ·simp [hs]
  ·rw[if_neg hs,if_neg (fun h:d=s=>hs h.symm)]
inductive Path (P:Program) (Γ:Ctx) (ops:Array Oper) (gs:List Nat):List Oper→Nat→St→List PS→St→Prop where
 | nil (i:Nat) (st:St):Path P Γ ops gs [] i st [] st
 | skip (o:Oper) (rest:List Oper) (i:Nat) (st:St) (l:List PS) (fin:St) (hw:Jf ops st o=some false) (hok:(st.skip o.dst).ok=true) (h:Path P Γ ops gs rest (i+1) (st.skip o.dst) l fin):
   Path P Γ ops gs (o::rest) i st (⟨i,o,false,st, {sv:= .undef},Qt ops i o⟩::l) fin
 | op (o:Oper) (rest:List Oper) (i:Nat) (st:St) (l:List PS) (fin:St) (e:u4) (hw:Jf ops st o=some true) (hok:(st.tT P Γ o).ok=true) (he:st.tT P Γ o=st.apply o.dst e)
   (hr:∃s r,(evalOp P Γ o).run st.get st.obj=some (e,s,r)) (h:Path P Γ ops gs rest (i+1) (st.tT P Γ o) l fin):
   Path P Γ ops gs (o::rest) i st (⟨i,o,true,st,e,jJ P Γ ops i st o⟩::l) fin
 | opk (o:Oper) (rest:List Oper) (i:Nat) (st:St) (l:List PS) (fin:St) (e:u4) (s:Nat) (g:Bool) (hw:Jf ops st o=some true) (hok:(st.tT P Γ o).ok=true) (he:st.tT P Γ o=st.apply o.dst e)
   (hr:∃s r,(evalOp P Γ o).run st.get st.obj=some (e,s,r)) (hd:o.dst=some s) (hg:e.sv= .bool g) (h:Path P Γ ops gs rest (i+1) ((st.tT P Γ o).reset.Lp s g) l fin):
   Path P Γ ops gs (o::rest) i st (⟨i,o,true,st, {e with sv:= .kb g},jJ P Γ ops i st o⟩::l) fin
section
variable {P:Program} {Γ:Ctx} {w0:World} {S:Own} {ops:Array Oper} {gs:List Nat}
theorem HD {chk:List sP→Bool} :∀(rest:List Oper) (i:Nat) (acc:List sP) (st:St),(eL P Γ ops gs chk rest i acc st).ok=true→
  ∃l fin,Path P Γ ops gs rest i st l fin∧fin.ok=true∧chk (acc++l.map (·.log))=true∧∀(w0:World) (S:Own) (a:Act) (w:World),Rel w0 S fin a w→Rel w0 S (eL P Γ ops gs chk rest i acc st) a w
 | [],i,acc,st,hok=>by
  simp only[eL,Kk] at hok ⊢
  exact⟨[],st,.nil i st,hok.1,by simpa using hok.2,fun w0 S a w h=>h.arY _⟩
 | o::rest,i,acc,st,hok=>by
  rw[eL] at hok ⊢
  cases hw:Jf ops st o with
  | none=>simp [hw,eR] at hok
  | some b=>
   simp only[hw] at hok ⊢
   cases b with
   | false=>
    simp only at hok ⊢
    obtain⟨l,fin,h1,h2,h3,h4⟩:=HD rest _ _ _ hok
    exact⟨_,fin,.skip o rest i st l fin hw (eW rest _ _ _ hok).ok h1,h2,by simpa using h3,h4⟩
   | true=>
    simp only at hok ⊢
    have plain:(eL P Γ ops gs chk rest (i+1) (acc++[jJ P Γ ops i st o]) (st.tT P Γ o)).ok=true→
      ∃l fin,Path P Γ ops gs (o::rest) i st l fin∧fin.ok=true∧chk (acc++l.map (·.log))=true∧∀(w0:World) (S:Own) (a:Act) (w:World),Rel w0 S fin a w→
       Rel w0 S (eL P Γ ops gs chk rest (i+1) (acc++[jJ P Γ ops i st o]) (st.tT P Γ o)) a w:=by
     intro h1
     have hd:=(eW rest _ _ _ h1).ok
     obtain⟨l,fin,g1,g2,g3,g4⟩:=HD rest _ _ _ h1
     obtain⟨e,s,r,hr,_,he⟩:=ajg hd
     exact⟨_,fin,.op o rest i st l fin e hw hd he ⟨s,r,hr⟩ g1,g2,by simpa using g3,g4⟩
    split at hok
    ·rename_i hd
     exact plain hok
    ·rename_i s hd
     cases hm:PL s gs
     ·simp only[hm,cond_false] at hok ⊢
      exact plain hok
     ·simp only[hm,cond_true] at hok ⊢
      split at hok
      ·rename_i g hg
       have hsp:=wV hok
       have hbr:∀b:Bool,g=b→(eL P Γ ops gs chk rest (i+1) (acc++[jJ P Γ ops i st o]) ((st.tT P Γ o).reset.Lp s b)).ok=true:=by
        rintro b rfl
        cases g with
        | true=>exact hsp.1 rfl
        | false=>exact hsp.2 rfl
       have hd1:=(eW rest _ _ _ (hbr g rfl)).ok
       have hd2:(st.tT P Γ o).ok=true:=hd1
       obtain⟨l,fin,g1,g2,g3,g4⟩:=HD rest (i+1) (acc++[jJ P Γ ops i st o]) _ (hbr g rfl)
       obtain⟨e,s',r,hr,_,he⟩:=ajg hd2
       have Mv:e.sv= .bool g:=by
        rw[he,hd,apply_get] at hg
        simpa [dB] using hg
       refine⟨_,fin,.opk o rest i st l fin e s g hw hd2 he ⟨s',r,hr⟩ hd Mv g1,g2,by simpa using g3,fun w0 S a w hR=> ?_⟩
       have GW:=g4 w0 S a w hR
       refine MC (fun hgt=> ?_) (fun hgf=> ?_) hok
       ·subst hgt
        exact⟨(X9 (st:=(st.tT P Γ o).reset) hd2).trans (eW rest _ _ _ (hbr true rfl)),GW⟩
       ·subst hgf
        exact⟨(X9 (st:=(st.tT P Γ o).reset) hd2).trans (eW rest _ _ _ (hbr false rfl)),GW⟩
      ·rename_i hg
       exact plain hok
def abT (L:Nat→Bool) (l:List PS) (s:Nat) (v:SV):SV:=l.foldl (fun v p=>if L p.i then p.f s v else v) v
def abU (L:Nat→Bool) (l:List PS) (id:Nat) (v:Option bP):Option bP:=l.foldl (fun v p=>if L p.i then p.h id v else v) v
def PS.tF (p:PS) (s:Nat):Prop:=p.o.dst=some s
def PS.tH (p:PS) (id:Nat):Prop:=id∈p.e.ow.map (·.1)∨∃off lE,p.e.cw=some (id,off,lE)
theorem PS.atr {p:PS} {s:Nat} (h:¬p.tF s) (v:SV):p.f s v=v:=by unfold PS.f PS.tF at*;rw[if_neg h]
theorem aqE {ow:List (Nat×Option bP)} {id:Nat} (h:id ∉ ow.map (·.1)):lkW ow id=none:=by
 induction ow with
 | nil=>rfl
 | cons x l ih=>
  obtain⟨i,ob⟩:=x
  simp only[List.map_cons,List.mem_cons,not_or] at h
  simp only[lkW]
  rw[if_neg h.1]
  exact ih h.2
theorem PS.ats {p:PS} {id:Nat} (h:¬p.tH id) (v:Option bP):p.h id v=v:=by
 unfold PS.tH at h
 simp only[not_or] at h
 unfold PS.h
 rw[aqE h.1]
 simp only
 unfold aqD
 split
 ·rename_i i off lE XO
  by_cases hi:id=i
  ·subst hi
   exact absurd ⟨off,lE,XO⟩ h.2
  ·rw[if_neg hi]
 ·rfl
theorem HN {α:Type} (step:PS→α→α) {L:Nat→Bool} :∀(l:List PS) (v:α),(∀q∈l,L q.i=false)→l.foldl (fun v q=>if L q.i then step q v else v) v=v
 | [],v,_=>rfl
 | z::l,v,h=>by
  simp only[List.foldl_cons,h z (List.mem_cons_self ..),Bool.false_eq_true,if_false]
  exact HN step l v (fun q hq=>h q (List.mem_cons_of_mem _ hq))
section att
variable {α:Type} (step:PS→α→α) (T:PS→Prop)
theorem fold_congr (Bo:∀p v,¬T p→step p v=v) {L L':Nat→Bool} :∀(l:List PS) (v:α),(∀p∈l,T p→L p.i=L' p.i)→
  l.foldl (fun v p=>if L p.i then step p v else v) v=l.foldl (fun v p=>if L' p.i then step p v else v) v
 | [],v,_=>rfl
 | p::l,v,h=>by
  simp only[List.foldl_cons]
  have:(if L p.i then step p v else v)=if L' p.i then step p v else v:=by
   by_cases ht:T p
   ·rw[h p (List.mem_cons_self ..) ht]
   ·rw[Bo p v ht]
    simp
  rw[this]
  exact fold_congr Bo l _ (fun q hq=>h q (List.mem_cons_of_mem _ hq))
theorem Qh (Bo:∀p v,¬T p→step p v=v) {L:Nat→Bool} {q:PS} :∀(l:List PS) (v:α),q∈l→(l.map (·.i)).Nodup→L q.i=false→l.Pairwise (fun a b=>a.i<b.i)→(∀p∈l,q.i<p.i→T q→T p→L p.i=false)→
  l.foldl (fun v p=>if (L p.i || p.i==q.i) then step p v else v) v=step q (l.foldl (fun v p=>if L p.i then step p v else v) v)
 | [],v,hq,_,_,_,_=>by simp at hq
 | p::l,v,hq,hn,hL,hp,hno=>by
  simp only[List.foldl_cons]
  simp only[List.map_cons,List.nodup_cons] at hn
  rw[List.pairwise_cons] at hp
  rcases List.mem_cons.1 hq with rfl | hql
  ·simp only[hL,beq_self_eq_true,Bool.or_true,if_true,Bool.false_eq_true,if_false]
   have e1:l.foldl (fun v p=>if (L p.i || p.i==q.i) then step p v else v) (step q v)=l.foldl (fun v p=>if L p.i then step p v else v) (step q v):=by
    refine fold_congr step T Bo (L:=fun k=>L k || k==q.i) (L':=L) l _ (fun r hr _=> ?_)
    have:r.i≠q.i:=fun e=>hn.1 (e ▸ List.mem_map_of_mem hr)
    simp [this]
   rw[e1]
   by_cases ht:T q
   ·have e2:∀u,l.foldl (fun v p=>if L p.i then step p v else v) u=u:=by
     intro u
     have:=fold_congr step T Bo (L:=L) (L':=fun _=>false) l u (fun r hr hrt=>hno r (List.mem_cons_of_mem _ hr) (hp.1 r hr) ht hrt)
     rw[this]
     exact HN step (L:=fun _=>false) l u (fun _ _=>rfl)
    rw[e2,e2]
   ·rw[Bo q v ht,Bo q _ ht]
  ·have sV:p.i≠q.i:=fun e=>hn.1 (e ▸ List.mem_map_of_mem hql)
   have:(if (L p.i || p.i==q.i) then step p v else v)=if L p.i then step p v else v:=by simp [sV]
   rw[this]
   exact Qh Bo l _ hql hn.2 hL hp.2 (fun r hr=>hno r (List.mem_cons_of_mem _ hr))
end att
theorem qT:∀ {rest:List Oper} {i:Nat} {st:St} {l:List PS} {fin:St},Path P Γ ops gs rest i st l fin→l.map (·.i)=List.range' i rest.length∧l.map (·.o)=rest∧(∀p∈l,p.log.i=p.i∧p.log.d=p.o.dst):=by
 intro rest i st l fin h
 induction h with
 | nil=>exact⟨rfl,rfl,by simp⟩
 | skip o rest i st l fin hw hok h ih=>
  refine⟨by simp [ih.1,List.range'_succ],by simp [ih.2.1],fun p hp=> ?_⟩
  rcases List.mem_cons.1 hp with rfl | hp
  ·exact⟨rfl,rfl⟩
  ·exact ih.2.2 p hp
 | op o rest i st l fin e hw hok he hr h ih=>
  refine⟨by simp [ih.1,List.range'_succ],by simp [ih.2.1],fun p hp=> ?_⟩
  rcases List.mem_cons.1 hp with rfl | hp
  ·obtain⟨s,r,hr⟩:=hr
   simp [jJ,hr]
  ·exact ih.2.2 p hp
 | opk o rest i st l fin e s g hw hok he hr hd hg h ih=>
  refine⟨by simp [ih.1,List.range'_succ],by simp [ih.2.1],fun p hp=> ?_⟩
  rcases List.mem_cons.1 hp with rfl | hp
  ·obtain⟨s,r,hr⟩:=hr
   simp [jJ,hr]
  ·exact ih.2.2 p hp
def aqF (st:St) (l:List PS) (fin:St):Prop:=
 (∀p∈l,(∀s,p.st.get s=abT (fun k=>decide (k<p.i)) l s (st.get s))∧(∀id,p.st.obj id=abU (fun k=>decide (k<p.i)) l id (st.obj id))∧p.st.n=st.n)∧
  (∀s,fin.get s=abT (fun _=>true) l s (st.get s))∧(∀id,fin.obj id=abU (fun _=>true) l id (st.obj id))∧fin.n=st.n
theorem U4 (p0:PS) {st st1:St} {atu:List Oper} {l':List PS} {asH:St} {i:Nat} (hi:p0.i=i) (QA:p0.st=st) (hf:∀s,st1.get s=p0.f s (st.get s)) (hh:∀id,st1.obj id=p0.h id (st.obj id)) (hn:st1.n=st.n)
  (Bp:Path P Γ ops gs atu (i+1) st1 l' asH) (ih:aqF st1 l' asH):aqF st (p0::l') asH:=by
 have as4:=(qT Bp).1
 have hge:∀p∈l',i+1≤p.i:=by
  intro p hp
  have:p.i∈l'.map (·.i):=List.mem_map_of_mem hp
  rw[as4] at this
  exact (List.mem_range'_1.1 this).1
 refine⟨fun p hp=> ?_,fun s=> ?_,fun id=> ?_,ih.2.2.2.trans hn⟩
 ·rcases List.mem_cons.1 hp with rfl | hp
  ·have none_lt:∀q∈p::l',decide (q.i<p.i)=false:=by
    intro q hq
    rcases List.mem_cons.1 hq with rfl | hq
    ·simp
    ·have:=hge q hq
     simp
     omega
   refine⟨fun s=> ?_,fun id=> ?_,by rw[QA]⟩
   ·have:=HN (fun q v=>PS.f q s v) (L:=fun k=>decide (k<p.i)) (p::l') (st.get s) none_lt
    rw[QA]
    exact this.symm
   ·have:=HN (fun q v=>PS.h q id v) (L:=fun k=>decide (k<p.i)) (p::l') (st.obj id) none_lt
    rw[QA]
    exact this.symm
  ·have h0:=hge p hp
   have hlt:decide (p0.i<p.i)=true:=by simp;omega
   obtain⟨g1,g2,g3⟩:=ih.1 p hp
   refine⟨fun s=> ?_,fun id=> ?_,g3.trans hn⟩
   ·rw[g1 s,hf s]
    unfold abT
    simp only[List.foldl_cons,hlt,if_true]
   ·rw[g2 id,hh id]
    unfold abU
    simp only[List.foldl_cons,hlt,if_true]
 ·rw[ih.2.1 s,hf s]
  unfold abT
  simp only[List.foldl_cons,if_true]
 ·rw[ih.2.2.1 id,hh id]
  unfold abU
  simp only[List.foldl_cons,if_true]
theorem aqG {st:St} {o:Oper} {e:u4} {s:Nat} {g:Bool} (hd:o.dst=some s) (p:PS) (hp:p.o=o) (hpe:p.e= {e with sv:= .kb g}) (k:Nat):(((st.apply o.dst e).reset).Lp s g).get k=p.f k (st.get k):=by
 rw[aje]
 have e1:(st.apply o.dst e).reset.get=(st.apply o.dst e).get:=rfl
 rw[e1,hd,apply_get]
 unfold PS.f
 rw[hp,hd,hpe]
 simp only[dB,Option.some.injEq]
 by_cases hk:k=s
 ·simp [hk]
 ·rw[if_neg hk,if_neg hk,if_neg (fun h:s=k=>hk h.symm)]
theorem aqH {st:St} {o:Oper} {e:u4} {s:Nat} {g:Bool} (p:PS) (hp:p.o=o) (hpe:p.e= {e with sv:= .kb g}) (id:Nat):(((st.apply o.dst e).reset).Lp s g).obj id=p.h id (st.obj id):=by
 have e1:(((st.apply o.dst e).reset).Lp s g).obj id=(st.apply p.o.dst p.e).obj id:=by
  rw[HK,hpe]
  show (st.apply o.dst e).obj id=_
  rw[HK]
 rw[e1]
 exact X_ st p id
theorem abV {rest:List Oper} {i:Nat} {st:St} {l:List PS} {fin:St} (h:Path P Γ ops gs rest i st l fin):aqF st l fin:=by
 induction h with
 | nil=>exact⟨by simp,fun _=>rfl,fun _=>rfl,rfl⟩
 | skip o rest i st l fin hw hok h ih=>
  exact U4 ⟨i,o,false,st, {sv:= .undef},Qt ops i o⟩ rfl rfl (fun s=>afI st ⟨i,o,false,st, {sv:= .undef},Qt ops i o⟩ s) (fun id=>X_ st ⟨i,o,false,st, {sv:= .undef},Qt ops i o⟩ id) rfl h ih
 | op o rest i st l fin e hw hok he hr h ih=>
  refine U4 ⟨i,o,true,st,e,jJ P Γ ops i st o⟩ rfl rfl (fun s=> ?_) (fun id=> ?_) ?_ h ih
  ·rw[he];exact afI st ⟨i,o,true,st,e,jJ P Γ ops i st o⟩ s
  ·rw[he];exact X_ st ⟨i,o,true,st,e,jJ P Γ ops i st o⟩ id
  ·rw[he];rfl
 | opk o rest i st l fin e s g hw hok he hr hd hg h ih=>
  refine U4 ⟨i,o,true,st, {e with sv:= .kb g},jJ P Γ ops i st o⟩ rfl rfl (fun s=> ?_) (fun id=> ?_) ?_ h ih
  ·rw[he];exact aqG hd ⟨i,o,true,st, {e with sv:= .kb g},jJ P Γ ops i st o⟩ rfl rfl s
  ·rw[he];exact aqH ⟨i,o,true,st, {e with sv:= .kb g},jJ P Γ ops i st o⟩ rfl rfl id
  ·rw[he];rfl
def U5 (P:Program) (Γ:Ctx) (ops:Array Oper) (p:PS):Prop:=
 (Jf ops p.st p.o=some false∧p.e= {sv:= .undef} ∧(p.st.skip p.o.dst).ok=true∧p.log=Qt ops p.i p.o)∨
 (Jf ops p.st p.o=some true∧∃e s r,(evalOp P Γ p.o).run p.st.get p.st.obj=some (e,s,r)∧(p.st.apply p.o.dst e).ok=true∧p.log=jJ P Γ ops p.i p.st p.o∧
  (p.e=e∨∃d g,p.o.dst=some d∧e.sv= .bool g∧p.e= {e with sv:= .kb g}))
theorem aoD {rest:List Oper} {i:Nat} {st:St} {l:List PS} {fin:St} (h:Path P Γ ops gs rest i st l fin):∀p∈l,U5 P Γ ops p:=by
 induction h with
 | nil=>simp
 | skip o rest i st l fin hw hok h ih=>
  intro p hp
  rcases List.mem_cons.1 hp with rfl | hp
  ·exact .inl ⟨hw,rfl,hok,rfl⟩
  ·exact ih p hp
 | op o rest i st l fin e hw hok he hr h ih=>
  intro p hp
  rcases List.mem_cons.1 hp with rfl | hp
  ·obtain⟨s,r,hr⟩:=hr
   exact .inr ⟨hw,e,s,r,hr,by rw[←he];exact hok,rfl,.inl rfl⟩
  ·exact ih p hp
 | opk o rest i st l fin e s g hw hok he hr hd hg h ih=>
  intro p hp
  rcases List.mem_cons.1 hp with rfl | hp
  ·obtain⟨s',r,hr⟩:=hr
   exact .inr ⟨hw,e,s',r,hr,by rw[←he];exact hok,rfl,.inr ⟨s,g,hd,hg,rfl⟩⟩
  ·exact ih p hp
end
end Go.Proofs.YthpmalpdnnbkgaaGreat.Vm
