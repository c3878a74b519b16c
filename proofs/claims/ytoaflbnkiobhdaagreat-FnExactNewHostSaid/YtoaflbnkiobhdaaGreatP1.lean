/- Plain forms. Conditions: as each says. -/
import Derived.Test.YtoaflbnkiobhdaaGreatP0
set_option linter.unusedVariables false
set_option linter.unusedSimpArgs false
set_option maxRecDepth 100000
namespace Go.Proofs.YtoaflbnkiobhdaaGreat.Pl
open Vm
noncomputable section
variable {α:Type} (jX:α)
def RV {α:Type} (k_:nO→Bool→α) (count time:Int):α:=
 let z0:nO:=(⟨count,time,0,0,false,false⟩:nO)
 bif !(neE z0) then k_ (⟨0,0,0,0,false,false⟩:nO) false
 else k_ z0 true
def pd (count time:Int):nO×Bool:=RV (fun r0 r1=>(r0,r1)) count time
theorem RU {α:Type} (k_:nO→Bool→α) (count time:Int):RV k_ count time=k_ (pd count time).1 (pd count time).2:=by
 exact JR (K:=fun r:nO×Bool=>k_ r.1 r.2) rfl rfl
theorem drop_cons {l:Rows} {i:Nat} (h:i<l.length):l.drop i=nth l i::l.drop (i+1):=by
 rw[List.drop_eq_getElem_cons h]
 simp [nth,List.getD_eq_getElem?_getD,h]
def vh (k_:na→α) (ou:Int) (ox:Int→Rows→α) (i:Int) (m_0:Rows):α:=
 bif decide (i<ou) then
  bif DZ (DZ true (WG 0 128)) (pK 16 m_0 ([[.str (WE 0 128)]])) then
   ox (nR (i+1)) (m_0++([[.str (WE 0 128)]]))
  else jX
 else k_ (⟨m_0⟩:na)
def sd (k_:na→α) (N:Nat) (ou:Int) (m_:Nat):Int→Rows→α:=
 Nat.rec (motive:=fun _=>Int→Rows→α) (fun _ _=>jX) (fun _ ox=>vh jX k_ ou ox) m_
theorem NZ (k_:na→α) (N:Nat) (ou:Int) (m_:Nat):sd jX k_ N ou (m_+1)=vh jX k_ ou (sd jX k_ N ou m_):=rfl
def zl {α:Type} (jX:α) (k_:na→α) (l0:Int→Rows→α) (ou:Int):α:=
 bif !(nx ou 0 64) then k_ (⟨[]⟩:na)
 else l0 0 []
def RT (k_:na→α) (N:Nat) (ou:Int):α:=zl jX k_ (sd jX k_ N ou N) ou
theorem nbf (k_:na→α) (ou:Int):∃N,RT jX k_ N ou=k_ (pL ou):=by
 have hpg:([[.str (WE 0 128)]]:Rows)=[pg0]:=by unfold pg0;rfl
 refine⟨66, ?_⟩
 unfold RT zl pL
 cases hb:nx ou 0 64
 ·by_cases GZ:ou≤64
  ·have h0:ou<0:=by
    by_cases h:ou<0
    ·exact h
    ·rw[show nx ou 0 64=true from oX.2 ⟨by omega,GZ⟩] at hb;cases hb
   rw[decide_eq_true GZ,show ou.toNat=0 by omega]
   rfl
  ·rw[decide_eq_false GZ]
   rfl
 ·obtain⟨h0,GZ⟩:=oX.1 hb
  rw[decide_eq_true GZ,cond_true]
  simp only[Bool.not_true,cond_false]
  refine xa ou.toNat (fun n i o=>sd jX k_ 66 ou n i o) (fun _ o=>o++[pg0]) (fun o=>k_ (⟨o⟩:na)) (fun i o=>o.length≤i) ?_ ?_ ?_ 66 [] (by simp) (by omega)
  ·intro i o hi ho
   simp only[List.length_append,List.length_cons,List.length_nil];omega
  ·intro n i o hi ho
   show sd jX k_ 66 ou (n+1) (i:Int) o=_
   rw[NZ]
   have hr:∀x:List DC,pK 16 o [x]=true:=fun x=>sb (by simp only[List.length_cons,List.length_nil];omega) (by omega)
   have hl:WG 0 128=true:=rfl
   simp only[vh,decide_eq_true (show (i:Int)<ou by omega),hr,hl,hpg,nk,cond_true,nT (show -9223372036854775808≤(i:Int)+1 by omega) (show (i:Int)+1≤9223372036854775807 by omega)]
  ·intro n o ho
   show sd jX k_ 66 ou (n+1) ((ou.toNat:Nat):Int) o=_
   rw[NZ]
   simp only[vh,decide_eq_false (show ¬((ou.toNat:Nat):Int)<ou by omega),cond_false]
def ncY (k_:nt→Bool→α) (count base size zX:Int) (ox:Int→Rows→α) (k:Int) (vF:Rows):α:=
 bif decide (k<count) then
  bif DZ true (pK 8 vF ([[.int k]])) then
   ox (nR (k+1)) (vF++([[.int k]]))
  else jX
 else k_ (⟨base,size,zX,vF⟩:nt) true
def ncX (k_:nt→Bool→α) (N:Nat) (count base size zX:Int) (m_:Nat):Int→Rows→α:=
 Nat.rec (motive:=fun _=>Int→Rows→α) (fun _ _=>jX) (fun _ ox=>ncY jX k_ count base size zX ox) m_
def OK {α:Type} (jX:α) (k_:nt→Bool→α) (l0:Int→Int→Rows→α) (base size count:Int):α:=
 bif !(tP (⟨base,size,count,[]⟩:nt)) then k_ (⟨0,0,0,[]⟩:nt) false
 else l0 count 0 []
def Ve (k_:nt→Bool→α) (N:Nat) (base size count:Int):α:=OK jX k_ (fun zX=>ncX jX k_ N count base size zX N) base size count
def naO (base size count:Int):Bool:=decide (count=8) || decide (count=4)
def njt (count:Int):Rows:=bif decide (count=8) then [[.int 0],[.int 1],[.int 2],[.int 3],[.int 4],[.int 5],[.int 6],[.int 7]] else [[.int 0],[.int 1],[.int 2],[.int 3]]
def uj (base size count:Int):nt×Bool:=bif !(tP ⟨base,size,count,[]⟩) then (⟨0,0,0,[]⟩,false) else (⟨base,size,count,njt count⟩,true)
theorem nkG (base size:Int):tP ⟨base,size,8,njt 8⟩=tP ⟨base,size,8,[]⟩:=by
 unfold tP
 cases nx base 0 130944<;>cases nx size 1 512<;>rfl
theorem nkF (base size:Int):tP ⟨base,size,4,njt 4⟩=tP ⟨base,size,4,[]⟩:=by
 unfold tP
 cases nx base 0 130944<;>cases nx size 1 512<;>rfl
theorem neR (k_:nt→Bool→α) (base size count:Int) (aI:naO base size count=true):∃N,Ve jX k_ N base size count=k_ (uj base size count).1 (uj base size count).2:=by
 have hc:count=8∨count=4:=by simpa [naO] using aI
 refine⟨10, ?_⟩
 unfold Ve OK uj
 rcases hc with rfl | rfl
 ·exact qv (K:=fun z:nt×Bool=>k_ z.1 z.2) (fun _=>rfl) (fun _=>rfl)
 ·exact qv (K:=fun z:nt×Bool=>k_ z.1 z.2) (fun _=>rfl) (fun _=>rfl)
def nea (k_:nt→Bool→α) (count base size zX:Int) (ox:Int→Rows→α) (k:Int) (vF:Rows):α:=
 bif bif decide (k<count) then decide (count≤16) else false then
  bif DZ true (pK 8 vF ([[.int k]])) then
   ox (nR (k+1)) (vF++([[.int k]]))
  else jX
 else bif !(tP (⟨base,size,zX,vF⟩:nt)) then k_ (⟨0,0,0,[]⟩:nt) false
 else k_ (⟨base,size,zX,vF⟩:nt) true
def nd_ (k_:nt→Bool→α) (N:Nat) (count base size zX:Int) (m_:Nat):Int→Rows→α:=
 Nat.rec (motive:=fun _=>Int→Rows→α) (fun _ _=>jX) (fun _ ox=>nea jX k_ count base size zX ox) m_
def PM {α:Type} (jX:α) (k_:nt→Bool→α) (l0:Int→Int→Rows→α) (base size count:Int):α:=
 l0 count 0 []
def V3 (k_:nt→Bool→α) (N:Nat) (base size count:Int):α:=PM jX k_ (fun zX=>nd_ jX k_ N count base size zX N) base size count
theorem nfO (k_:nt→Bool→α) (base size count:Int) (aI:naO base size count=true):∃N,V3 jX k_ N base size count=k_ (uj base size count).1 (uj base size count).2:=by
 have hc:count=8∨count=4:=by simpa [naO] using aI
 refine⟨10, ?_⟩
 unfold V3 PM uj
 rcases hc with rfl | rfl
 ·rw[←nkG]
  exact qv (K:=fun z:nt×Bool=>k_ z.1 z.2) (fun _=>rfl) (fun _=>rfl)
 ·rw[←nkF]
  exact qv (K:=fun z:nt×Bool=>k_ z.1 z.2) (fun _=>rfl) (fun _=>rfl)
def v_ (k_:na→ny→nt→Int→α) (nc:Rows) (domain:Int) (x:Rows) (ot YY zX vF:Int) (Nq:Rows) (y8 rE rF:Int) (ox:Int→Int→Int→Int→Int→Int→Rows→α) (n oA r_1 r_2 r_3 r_4:Int) (pB:Rows):α:=
 let z0:Bytes:=qO (⟨3,0,zX,px (⟨YY,zX,vF,Nq⟩:nt) (rI (nth x (Int.toNat oA)) 0),0,rI (nth x (Int.toNat oA)) 0⟩:qp)
 let z1:na×ny×Bool:=qq nc (⟨pB⟩:na) domain (⟨r_1,r_2,r_3,r_4⟩:ny) z0
 let z2:Bool:=DZ (DZ true (okL Nq n)) (sm (NY Nq n))
 let z3:nt:=(⟨y8,rE,rF,qY (NY Nq n)⟩:nt)
 let z4:ny:=z1.2.1
 bif decide (oA<ot) then
  bif DZ true (idx oA x) then
   bif DZ true (xG nc (⟨pB⟩:na) domain (⟨r_1,r_2,r_3,r_4⟩:ny) z0) then
    bif !z1.2.2 then
     bif z2 then
      k_ (⟨pB⟩:na) (⟨r_1,r_2,r_3,r_4⟩:ny) z3 n
     else jX
    else ox (nR (n+1)) (nR (oA+1)) z4.oB z4.nK z4.Head z4.pM z1.1.nF
   else jX
  else jX
 else bif z2 then
   k_ (⟨pB⟩:na) (⟨r_1,r_2,r_3,r_4⟩:ny) z3 n
  else jX
def v9 (k_:na→ny→nt→Int→α) (N:Nat) (nc:Rows) (domain:Int) (x:Rows) (ot YY zX vF:Int) (Nq:Rows) (y8 rE rF:Int) (m_:Nat):Int→Int→Int→Int→Int→Int→Rows→α:=
 Nat.rec (motive:=fun _=>Int→Int→Int→Int→Int→Int→Rows→α) (fun _ _ _ _ _ _ _=>jX) (fun _ ox=>v_ jX k_ nc domain x ot YY zX vF Nq y8 rE rF ox) m_
theorem OG (k_:na→ny→nt→Int→α) (N:Nat) (nc:Rows) (domain:Int) (x:Rows) (ot YY zX vF:Int) (Nq:Rows) (y8 rE rF:Int) (m_:Nat):v9 jX k_ N nc domain x ot YY zX vF Nq y8 rE rF (m_+1)=v_ jX k_ nc domain x ot YY zX vF Nq y8 rE rF (v9 jX k_ N nc domain x ot YY zX vF Nq y8 rE rF m_):=rfl
def NB (k_:na→ny→nt→Int→α) (l0:Rows→Int→Int→Int→Int→Rows→Int→Int→Int→Int→Int→Int→Int→Int→Int→Rows→α) (nc:Rows) (m:na) (domain:Int) (r:ny) (p:nt):α:=
 bif DZ (DZ true (xc m)) (VX p) then
  bif bif !(sO r) then true else !(tP p) then k_ (qY m) r (qY p) 0
  else l0 p.nY (len p.nY) p.oB p.nK p.Count p.nY ((qY p).oB) ((qY p).nK) ((qY p).Count) 0 0 r.oB r.nK r.Head r.pM ((qY m).nF)
 else jX
def Ts (k_:na→ny→nt→Int→α) (N:Nat) (nc:Rows) (m:na) (domain:Int) (r:ny) (p:nt):α:=NB jX k_ (fun x ot YY zX vF Nq y8 rE rF=>v9 jX k_ N nc domain x ot YY zX vF Nq y8 rE rF N) nc m domain r p
def U8 {α:Type} (nc:Rows) (m:na) (domain:Int) (r:α) (p:nt):Bool:=xc m && VX p
def neL (nc:Rows) (domain:Int) (p:nt):Rows→Int→na→ny→na×ny×nt×Int
 | [],n,m,r=>(m,r,⟨p.oB,p.nK,p.Count,[]⟩,n)
 | k::ks,n,m,r=>
  bif !(qq nc m domain r (qO ⟨3,0,p.nK,px p (rI k 0),0,rI k 0⟩)).2.2 then (m,r,⟨p.oB,p.nK,p.Count,k::ks⟩,n)
  else neL nc domain p ks (nR (n+1)) (qq nc m domain r (qO ⟨3,0,p.nK,px p (rI k 0),0,rI k 0⟩)).1 (qq nc m domain r (qO ⟨3,0,p.nK,px p (rI k 0),0,rI k 0⟩)).2.1
def oT (nc:Rows) (m:na) (domain:Int) (r:ny) (p:nt):na×ny×nt×Int:=bif bif !(sO r) then true else !(tP p) then (m,r,p,0) else neL nc domain p p.nY 0 m r
theorem nhT {l:Rows} {m:na} {d:Int} {r:ny} {e:Bytes} (h:decide (0<rG r)=false):(qq l m d r e).2.2=false:=by
 have hz:rG r=0:=by
  have h:=of_decide_eq_false h
  unfold rG uO at h ⊢
  cases hr:sO r
  ·rfl
  ·obtain⟨f1,f2,f3,f4,f5,f6,f7,f8,f9⟩:=niN hr
   have p1:=Int.emod_nonneg (r.pM - r.Head) (show 2*r.nK≠0 by omega)
   rw[hr] at h
   simp only[Bool.not_true,cond_false,id] at h ⊢
   rw[nT (by omega) (by omega)] at h ⊢
   omega
 unfold qq
 rw[hz]
 rfl
theorem ncJ (k_:na→ny→nt→Int→α) (nc:Rows) (m:na) (domain:Int) (r:ny) (p:nt) (aI:U8 nc m domain r p=true):∃N,Ts jX k_ N nc m domain r p=k_ (oT nc m domain r p).1 (oT nc m domain r p).2.1 (oT nc m domain r p).2.2.1 (oT nc m domain r p).2.2.2:=by
 have Hn:=aI
 simp only[U8,Bool.and_eq_true] at Hn
 obtain⟨s0,s1⟩:=Hn
 have hl:=sX (show sm p.nY=true from s1)
 unfold Ts NB oT
 refine⟨p.nY.length+1, ?_⟩
 refine rb (by rw[s0,s1];rfl) ?_
 refine qv (K:=fun z:na×ny×nt×Int=>k_ z.1 z.2.1 z.2.2.1 z.2.2.2) (fun _=>rfl) (fun hg=> ?_)
 have key:∀(q i N:Nat) (r:ny) (m:na),i+q=p.nY.length→q<N→sm m.nF=true→
   v9 jX k_ (p.nY.length+1) nc domain p.nY (len p.nY) p.oB p.nK p.Count p.nY p.oB p.nK p.Count N (i:Int) (i:Int) r.oB r.nK r.Head r.pM m.nF=(fun z:na×ny×nt×Int=>k_ z.1 z.2.1 z.2.2.1 z.2.2.2) (neL nc domain p (p.nY.drop i) (i:Int) m r):=by
  intro q
  induction q with
  | zero=>
   intro i N r m h1 h2 h3
   obtain⟨N,rfl⟩:∃q,N=q+1:=⟨N - 1,by omega⟩
   have hi:i=p.nY.length:=by omega
   subst hi
   rw[OG,List.drop_length]
   have g1:okL p.nY (p.nY.length:Int)=true:=by simp only[okL,Bool.and_eq_true,decide_eq_true_eq];omega
   have e1:NY p.nY (p.nY.length:Int)=[]:=by simp [NY]
   have g2:sm ([]:Rows)=true:=rfl
   simp only[v_,nS,g1,e1,g2,qY,nk,cond_true,cond_false,neL]
  | succ q ih=>
   intro i N r m h1 h2 h3
   obtain⟨N,rfl⟩:∃q,N=q+1:=⟨N - 1,by omega⟩
   have hi:i<p.nY.length:=by omega
   rw[OG,drop_cons hi]
   have AG:∀(r:ny) (e:Bytes),xG nc (⟨m.nF⟩:na) domain r e=true:=fun _ _=>h3
   have w1:nR ((i:Int)+1)=((i+1:Nat):Int):=by rw[nT (by omega) (by omega)];omega
   have hx:∀r:ny,(⟨r.oB,r.nK,r.Head,r.pM⟩:ny)=r:=fun _=>rfl
   have hm:(⟨m.nF⟩:na)=m:=rfl
   have hp:(⟨p.oB,p.nK,p.Count,p.nY⟩:nt)=p:=rfl
   have this:=ih (i+1) N (qq nc m domain r (qO ⟨3,0,p.nK,px p (rI (nth p.nY i) 0),0,rI (nth p.nY i) 0⟩)).2.1 (qq nc m domain r (qO ⟨3,0,p.nK,px p (rI (nth p.nY i) 0),0,rI (nth p.nY i) 0⟩)).1 (by omega) (by omega) (decide_eq_true (by rw[S8];exact sX h3))
   have g1:okL p.nY (i:Int)=true:=by simp only[okL,Bool.and_eq_true,decide_eq_true_eq];omega
   have e1:NY p.nY (i:Int)=nth p.nY i::p.nY.drop (i+1):=by rw[←drop_cons hi];simp [NY]
   have g2:sm (nth p.nY i::p.nY.drop (i+1))=true:=decide_eq_true (by rw[←drop_cons hi,List.length_drop];omega)
   simp only[v_,pf hi,oa hi,AG,w1,hx,hm,hp,g1,e1,g2,qY,Int.toNat_natCast,nk,cond_true,neL]
   refine qv (K:=fun z:na×ny×nt×Int=>k_ z.1 z.2.1 z.2.2.1 z.2.2.2) (fun _=>rfl) (fun _=>this)
 exact key p.nY.length 0 (p.nY.length+1) r m (by omega) (by omega) s0
def wH (k_:na→ny→nt→Int→α) (nc:Rows) (domain YY zX vF:Int) (Nq:Rows) (y8 rE rF:Int) (ox:Int→Int→Int→Int→Int→Rows→Rows→α) (n r_1 r_2 r_3 r_4:Int) (pB wV:Rows):α:=
 let z0:Bytes:=qO (⟨3,0,zX,px (⟨YY,zX,vF,Nq⟩:nt) (rI (nth wV 0) 0),0,rI (nth wV 0) 0⟩:qp)
 let z1:na×ny×Bool:=qq nc (⟨pB⟩:na) domain (⟨r_1,r_2,r_3,r_4⟩:ny) z0
 let z2:ny:=z1.2.1
 bif bif decide (0<rG (⟨r_1,r_2,r_3,r_4⟩:ny)) then decide (0<len wV) else false then
  bif DZ (DZ true (idx 0 wV)) (inl 0 wV) then
   bif DZ true (xG nc (⟨pB⟩:na) domain (⟨r_1,r_2,r_3,r_4⟩:ny) z0) then
    bif !z1.2.2 then k_ (⟨pB⟩:na) (⟨r_1,r_2,r_3,r_4⟩:ny) (⟨y8,rE,rF,wV⟩:nt) n
    else bif DZ (DZ true (okL wV 1)) (pK 8 [] (NY wV 1)) then
      ox (nR (n+1)) z2.oB z2.nK z2.Head z2.pM z1.1.nF (NY wV 1)
     else jX
   else jX
  else jX
 else k_ (⟨pB⟩:na) (⟨r_1,r_2,r_3,r_4⟩:ny) (⟨y8,rE,rF,wV⟩:nt) n
def wG (k_:na→ny→nt→Int→α) (N:Nat) (nc:Rows) (domain YY zX vF:Int) (Nq:Rows) (y8 rE rF:Int) (m_:Nat):Int→Int→Int→Int→Int→Rows→Rows→α:=
 Nat.rec (motive:=fun _=>Int→Int→Int→Int→Int→Rows→Rows→α) (fun _ _ _ _ _ _ _=>jX) (fun _ ox=>wH jX k_ nc domain YY zX vF Nq y8 rE rF ox) m_
theorem PI (k_:na→ny→nt→Int→α) (N:Nat) (nc:Rows) (domain YY zX vF:Int) (Nq:Rows) (y8 rE rF:Int) (m_:Nat):wG jX k_ N nc domain YY zX vF Nq y8 rE rF (m_+1)=wH jX k_ nc domain YY zX vF Nq y8 rE rF (wG jX k_ N nc domain YY zX vF Nq y8 rE rF m_):=rfl
def NQ (k_:na→ny→nt→Int→α) (l0:Int→Int→Int→Rows→Int→Int→Int→Int→Int→Int→Int→Int→Rows→Rows→α) (nc:Rows) (m:na) (domain:Int) (r:ny) (p:nt):α:=
 bif DZ true (xc m) then
  bif DZ true (VX p) then
   bif bif !(sO r) then true else !(tP p) then k_ (qY m) r (qY p) 0
   else l0 p.oB p.nK p.Count p.nY ((qY p).oB) ((qY p).nK) ((qY p).Count) 0 r.oB r.nK r.Head r.pM ((qY m).nF) ((qY p).nY)
  else jX
 else jX
def Uz (k_:na→ny→nt→Int→α) (N:Nat) (nc:Rows) (m:na) (domain:Int) (r:ny) (p:nt):α:=NQ jX k_ (fun YY zX vF Nq y8 rE rF=>wG jX k_ N nc domain YY zX vF Nq y8 rE rF N) nc m domain r p
theorem ndX (k_:na→ny→nt→Int→α) (nc:Rows) (m:na) (domain:Int) (r:ny) (p:nt) (aI:U8 nc m domain r p=true):∃N,Uz jX k_ N nc m domain r p=k_ (oT nc m domain r p).1 (oT nc m domain r p).2.1 (oT nc m domain r p).2.2.1 (oT nc m domain r p).2.2.2:=by
 have Hn:=aI
 simp only[U8,Bool.and_eq_true] at Hn
 obtain⟨s0,s1⟩:=Hn
 have hl:=sX (show sm p.nY=true from s1)
 unfold Uz NQ oT
 refine⟨p.nY.length+1, ?_⟩
 refine rb (um s0) (rb (um s1) ?_)
 refine qv (K:=fun z:na×ny×nt×Int=>k_ z.1 z.2.1 z.2.2.1 z.2.2.2) (fun _=>rfl) (fun hg=> ?_)
 have key:∀(q i N:Nat) (r:ny) (m:na),i+q=p.nY.length→q<N→sm m.nF=true→
   wG jX k_ (p.nY.length+1) nc domain p.oB p.nK p.Count p.nY p.oB p.nK p.Count N (i:Int) r.oB r.nK r.Head r.pM m.nF (p.nY.drop i)=(fun z:na×ny×nt×Int=>k_ z.1 z.2.1 z.2.2.1 z.2.2.2) (neL nc domain p (p.nY.drop i) (i:Int) m r):=by
  intro q
  induction q with
  | zero=>
   intro i N r m h1 h2 h3
   obtain⟨N,rfl⟩:∃q,N=q+1:=⟨N - 1,by omega⟩
   have hi:i=p.nY.length:=by omega
   subst hi
   rw[PI,List.drop_length]
   have hf:(bif decide (0<rG r) then decide ((0:Int)<len ([]:Rows)) else false)=false:=by cases decide (0<rG r)<;>rfl
   have hx:(⟨r.oB,r.nK,r.Head,r.pM⟩:ny)=r:=rfl
   simp only[wH,hx,hf,cond_false,neL]
  | succ q ih=>
   intro i N r m h1 h2 h3
   obtain⟨N,rfl⟩:∃q,N=q+1:=⟨N - 1,by omega⟩
   have hi:i<p.nY.length:=by omega
   rw[PI,drop_cons hi]
   have AG:∀(r:ny) (e:Bytes),xG nc (⟨m.nF⟩:na) domain r e=true:=fun _ _=>h3
   have w1:nR ((i:Int)+1)=((i+1:Nat):Int):=by rw[nT (by omega) (by omega)];omega
   have hx:∀r:ny,(⟨r.oB,r.nK,r.Head,r.pM⟩:ny)=r:=fun _=>rfl
   have hm:(⟨m.nF⟩:na)=m:=rfl
   have hp:(⟨p.oB,p.nK,p.Count,p.nY⟩:nt)=p:=rfl
   have this:=ih (i+1) N (qq nc m domain r (qO ⟨3,0,p.nK,px p (rI (nth p.nY i) 0),0,rI (nth p.nY i) 0⟩)).2.1 (qq nc m domain r (qO ⟨3,0,p.nK,px p (rI (nth p.nY i) 0),0,rI (nth p.nY i) 0⟩)).1 (by omega) (by omega) (decide_eq_true (by rw[S8];exact sX h3))
   have e1:NY (nth p.nY i::p.nY.drop (i+1)) 1=p.nY.drop (i+1):=by unfold NY;rw[List.take_length];rfl
   have g1:okL (nth p.nY i::p.nY.drop (i+1)) 1=true:=by simp only[okL,Bool.and_eq_true,decide_eq_true_eq,List.length_cons];omega
   have g3:idx 0 (nth p.nY i::p.nY.drop (i+1))=true:=by simp only[idx,Bool.and_eq_true,decide_eq_true_eq,List.length_cons];omega
   have g4:inl 0 (nth p.nY i::p.nY.drop (i+1))=true:=rfl
   have g5:pK 8 [] (p.nY.drop (i+1))=true:=sb (by rw[List.length_drop];simp only[List.length_nil];omega) (by omega)
   have e2:nth (nth p.nY i::p.nY.drop (i+1)) 0=nth p.nY i:=rfl
   have hlen:decide ((0:Int)<len (nth p.nY i::p.nY.drop (i+1)))=true:=decide_eq_true (by simp only[len,List.length_cons];omega)
   have hc:(bif decide (0<rG r) then true else false)=decide (0<rG r):=by cases decide (0<rG r)<;>rfl
   simp only[wH,hx,hm,hp,AG,w1,e1,e2,g1,g3,g4,g5,hlen,hc,nk,cond_true,neL]
   cases hf:decide (0<rG r)
   ·rw[nhT hf]
    rfl
   ·simp only[cond_true]
    exact qv (K:=fun z:na×ny×nt×Int=>k_ z.1 z.2.1 z.2.2.1 z.2.2.2) (fun _=>rfl) (fun _=>this)
 exact key p.nY.length 0 (p.nY.length+1) r m (by omega) (by omega) s0
def ZY (k_:nH→α):α:=
 bif DZ true (naO 256 128 8) then
  k_ (⟨(⟨0,16,0,0⟩:ny),(uj 256 128 8).1,[],0⟩:nH)
 else jX
def nE:nH:=⟨⟨0,16,0,0⟩,(uj 256 128 8).1,[],0⟩
theorem ZX (k_:nH→α):ZY jX k_=k_ nE:=by
 unfold ZY
 exact rb (um rfl) rfl
def VY (k:Int):Int:=nR (1280+(nR (k*1792)))
def nkH (k:Int):nv:=⟨nR (VY k+64),4,0⟩
def niO (k:Int):ny:=⟨VY k,4,0,0⟩
def ndU (k:Int):nt:=(uj (nR (VY k+128)) 384 4).1
def nj7 (k:Int) (r:ny) (dropped:Int):nW:=⟨r,nkH k,nkH k,⟨⟨0,0,0,0,0,0,0,0,⟨0,0,0,0,0,0,0,[]⟩⟩,0,0⟩,false,dropped⟩
theorem ni2 (k:Int):VX (ndU k)=true:=by
 unfold ndU uj
 cases tP (⟨nR (VY k+128),384,4,[]⟩:nt)<;>rfl
def ngD {α:Type} (k_:Int→α) (k:Int):α:=
 k_ (nR (1280+(nR (k*1792))))
theorem ngB {α:Type} (k_:Int→α) (k:Int):ngD k_ k=k_ (VY k):=by
 rfl
def ZW (k_:nW→nt→α) (k:Int):α:=
 let z0:nv:=(⟨nR ((VY k)+64),4,0⟩:nv)
 bif DZ true (naO (nR ((VY k)+128)) 384 4) then
  k_ (⟨(⟨VY k,4,0,0⟩:ny),z0,z0,(⟨(⟨0,0,0,0,0,0,0,0,(⟨0,0,0,0,0,0,0,[]⟩:oe)⟩:oJ),0,0⟩:pz),false,0⟩:nW) ((uj (nR ((VY k)+128)) 384 4).1)
 else jX
def oC (k:Int):nW×nt:=(nj7 k (niO k) 0,ndU k)
theorem nhC (k_:nW→nt→α) (k:Int):ZW jX k_ k=k_ (oC k).1 (oC k).2:=by
 unfold ZW
 exact rb (um rfl) rfl
def Wv (k_:nB→α) (h:nB) (k:Int):α:=
 let z0:Bool:=DZ (DZ true (idx k h.Rx)) (inl (Int.toNat k) h.Rx)
 let z1:Int:=nR (1280+(nR (k*1792)))
 let z2:Int:=nR (z1+128)
 let z3:na:=(ub h.Maps h.oD 0 z1 (ux 128 0)).1
 let z4:ny:=(⟨z1,4,0,0⟩:ny)
 let z5:nt:=(uj z2 384 4).1
 let z6:na×ny×nt×Int:=oT h.Maps z3 0 z4 z5
 let z7:ny:=z6.2.1
 let z8:Int:=nR (z1+64)
 let z9:nt:=z6.2.2.1
 bif z0 then
  bif DZ true (naO z2 384 4) then
   bif DZ (DZ true (xQ 128 0)) (vX h.Maps h.oD 0 z1 (ux 128 0)) then
    bif DZ true (U8 h.Maps z3 0 z4 z5) then
     bif z0 then
      bif DZ (DZ true (idx k h.ph)) ((inl (Int.toNat k) h.ph) && true) then
       k_ (⟨z6.1,h.Maps,h.Tx,List.set h.Rx (Int.toNat k) (bP (nth h.Rx (Int.toNat k)) 0 ([.int z7.oB,.int z7.nK,.int z7.Head,.int z7.pM,.int z8,.int 4,.int 0,.int z8,.int 4,.int 0,.int 0,.int 0,.int 0,.int 0,.int 0,.int 0,.int 0,.int 0,.int 0,.int 0,.int 0,.int 0,.int 0,.int 0,.int 0,.str [],.int 0,.int 0,.bool false,.int (rI (nth h.Rx (Int.toNat k)) 29)])),List.set h.ph (Int.toNat k) (bP (nth h.ph (Int.toNat k)) 0 (nt.enc z9)),h.oO,h.oN,h.Filter,h.nJ,h.qD,h.sN,h.zZ,h.pb,h.pA,h.Counters⟩:nB)
      else jX
     else jX
    else jX
   else jX
  else jX
 else jX
def opM (h:nB) (k:Int):na:=(ub h.Maps h.oD 0 (VY k) (ux 128 0)).1
def opF (h:nB) (k:Int):na×ny×nt×Int:=oT h.Maps (opM h k) 0 (niO k) (ndU k)
def nhm (h:nB) (k:Int):Bool:=(decide (0≤k) && (decide (k<len h.Rx) && decide (k<len h.ph))) && (sm h.Maps && sm h.oD.nF)
def Z5 (h:nB) (k:Int):nB:= {h with oD:=(opF h k).1,Rx:=List.set h.Rx k.toNat (nW.enc (nj7 k (opF h k).2.1 (rI (nth h.Rx k.toNat) 29))),ph:=List.set h.ph k.toNat (nt.enc (opF h k).2.2.1)}
theorem ngf (k_:nB→α) (h:nB) (k:Int) (h_h:jV nB.ct h.enc) (aI:nhm h k=true):Wv jX k_ h k=k_ (Z5 h k):=by
 obtain⟨hl,hw⟩:=oU (nB.nkI h_h)
 obtain⟨jT,hw2⟩:=oU (nB.njP h_h)
 have Hn:=aI
 simp only[nhm,Bool.and_eq_true,decide_eq_true_eq] at Hn
 obtain⟨⟨h0,h1,h2⟩,h3,h4⟩:=Hn
 obtain⟨c,rfl⟩:∃c:Nat,k=(c:Int):=⟨k.toNat,by omega⟩
 have hk:c<h.Rx.length:=by simp only[len] at h1;omega
 have hp:c<h.ph.length:=by simp only[len] at h2;omega
 have e1:=congrArg List.length (nW.eta (hw _ (xu hk)))
 have e2:=congrArg List.length (nt.eta (hw2 _ (xu hp)))
 have er1:∀q:nW,bP (nth h.Rx c) 0 (nW.enc q)=nW.enc q:=fun q=>vV (e1.symm.trans rfl)
 have er2:∀q:nt,bP (nth h.ph c) 0 (nt.enc q)=nt.enc q:=fun q=>vV (e2.symm.trans rfl)
 have hnp:naO (nR (VY (c:Int)+128)) 384 4=true:=rfl
 have Kk:xQ 128 0=true:=rfl
 have hhw:∀(a:Int) (s:Bytes),vX h.Maps h.oD 0 a s=true:=fun a s=>by simp only[vX,Bool.and_eq_true];exact⟨h3,h4⟩
 have bL:∀r:ny,U8 h.Maps (opM h (c:Int)) 0 r (ndU (c:Int))=true:=fun r=>by
  simp only[U8,Bool.and_eq_true]
  refine⟨decide_eq_true ?_,ni2 _⟩
  exact Nat.le_trans (Nat.le_of_eq (nij _ _ _ _ _ _)) (sX h4)
 have g1:(DZ (DZ true (idx (c:Int) h.Rx)) (inl c h.Rx))=true:=by rw[oa hk,tf hk];rfl
 have g2:(DZ (DZ true (idx (c:Int) h.ph)) ((inl c h.ph) && true))=true:=by rw[oa hp,tf hp];rfl
 unfold Wv
 simp only[Int.toNat_natCast]
 rw[g1,g2]
 simp only[cond_true]
 refine rb (um hnp) (rb (by rw[Kk];exact um (hhw _ _)) (rb (um (bL _)) ?_))
 rw[er2]
 exact congrArg k_ (congrArg (fun r=>({h with oD:=(opF h (c:Int)).1,Rx:=List.set h.Rx c r,ph:=List.set h.ph c (nt.enc (opF h (c:Int)).2.2.1)} :nB)) (er1 (nj7 (c:Int) (opF h (c:Int)).2.1 (rI (nth h.Rx c) 29))))
def uK (k_:nB→Bool→α) (l1:Rows→Int→Rows→Rows→Rows→Rows→Rows→α) (nf v sA sB sC:Int) (sD sE:Bool) (h u6 h_2 u7 u9 u_ va vb vc:Int) (vd:Bool) (pO:Bytes) (ng:Bool) (pP pQ pR pS pT:Int) (zh oG nV pU pV pW pX:Rows) (ox:Int→Rows→α) (p:Int) (oz:Rows):α:=
 bif decide (p<38) then
  bif DZ true (pK 32 oz ([[.int 0,.int p,.int (nR (37 - p)),.bool (!(nx p 2 9))]])) then
   ox (nR (p+1)) (oz++([[.int 0,.int p,.int (nR (37 - p)),.bool (!(nx p 2 9))]]))
  else jX
 else l1 oz 0 zh [] [] [] []
def uL (k_:nB→Bool→α) (nf v sA sB sC:Int) (sD sE:Bool) (h u6 h_2 u7 u9 u_ va vb vc:Int) (vd:Bool) (pO:Bytes) (ng:Bool) (pP pQ pR pS pT:Int) (oz oG nV pU pV pW pX:Rows) (ih1:Int→Rows→Rows→Rows→Rows→Rows→α) (k:Int) (qN qx qy qz qA:Rows):α:=
 bif decide (k<nf) then
  bif DZ true (U8 oz (⟨qN⟩:na) 0 (((oC k).1).Ring) ((oC k).2)) then
   bif DZ true (pK 248 qx ([[.int (((oT oz (⟨qN⟩:na) 0 (((oC k).1).Ring) ((oC k).2)).2.1).oB),.int (((oT oz (⟨qN⟩:na) 0 (((oC k).1).Ring) ((oC k).2)).2.1).nK),.int (((oT oz (⟨qN⟩:na) 0 (((oC k).1).Ring) ((oC k).2)).2.1).Head),.int (((oT oz (⟨qN⟩:na) 0 (((oC k).1).Ring) ((oC k).2)).2.1).pM),.int ((((oC k).1).Device).oB),.int ((((oC k).1).Device).nK),.int ((((oC k).1).Device).Count),.int ((((oC k).1).Driver).oB),.int ((((oC k).1).Driver).nK),.int ((((oC k).1).Driver).Count),.int (((((oC k).1).rq).oh).X4),.int (((((oC k).1).rq).oh).X5),.int (((((oC k).1).rq).oh).Zp),.int (((((oC k).1).rq).oh).Tos),.int (((((oC k).1).rq).oh).Id),.int (((((oC k).1).rq).oh).Ttl),.int (((((oC k).1).rq).oh).qC),.int (((((oC k).1).rq).oh).ru),.int ((((((oC k).1).rq).oh).Qi).Kind),.int ((((((oC k).1).rq).oh).Qi).oW),.int ((((((oC k).1).rq).oh).Qi).oV),.int ((((((oC k).1).rq).oh).Qi).Seq),.int ((((((oC k).1).rq).oh).Qi).Ack),.int ((((((oC k).1).rq).oh).Qi).Flags),.int ((((((oC k).1).rq).oh).Qi).U4),.str ((((((oC k).1).rq).oh).Qi).Body),.int ((((oC k).1).rq).nK),.int ((((oC k).1).rq).Count),.bool (((oC k).1).Zo),.int (((oC k).1).Zm)]])) then
    bif DZ true (pK 48 qy [nt.enc ((oT oz (⟨qN⟩:na) 0 (((oC k).1).Ring) ((oC k).2)).2.2.1)]) then
     bif DZ true (pK 40 qz ([[.int v,.int sA,.int sB,.int sC,.bool sD,.bool sE]])) then
      bif DZ true (pK 1 qA ([[.bool false]])) then
       ih1 (nR (k+1)) (((oT oz (⟨qN⟩:na) 0 (((oC k).1).Ring) ((oC k).2)).1).nF) (qx++([[.int (((oT oz (⟨qN⟩:na) 0 (((oC k).1).Ring) ((oC k).2)).2.1).oB),.int (((oT oz (⟨qN⟩:na) 0 (((oC k).1).Ring) ((oC k).2)).2.1).nK),.int (((oT oz (⟨qN⟩:na) 0 (((oC k).1).Ring) ((oC k).2)).2.1).Head),.int (((oT oz (⟨qN⟩:na) 0 (((oC k).1).Ring) ((oC k).2)).2.1).pM),.int ((((oC k).1).Device).oB),.int ((((oC k).1).Device).nK),.int ((((oC k).1).Device).Count),.int ((((oC k).1).Driver).oB),.int ((((oC k).1).Driver).nK),.int ((((oC k).1).Driver).Count),.int (((((oC k).1).rq).oh).X4),.int (((((oC k).1).rq).oh).X5),.int (((((oC k).1).rq).oh).Zp),.int (((((oC k).1).rq).oh).Tos),.int (((((oC k).1).rq).oh).Id),.int (((((oC k).1).rq).oh).Ttl),.int (((((oC k).1).rq).oh).qC),.int (((((oC k).1).rq).oh).ru),.int ((((((oC k).1).rq).oh).Qi).Kind),.int ((((((oC k).1).rq).oh).Qi).oW),.int ((((((oC k).1).rq).oh).Qi).oV),.int ((((((oC k).1).rq).oh).Qi).Seq),.int ((((((oC k).1).rq).oh).Qi).Ack),.int ((((((oC k).1).rq).oh).Qi).Flags),.int ((((((oC k).1).rq).oh).Qi).U4),.str ((((((oC k).1).rq).oh).Qi).Body),.int ((((oC k).1).rq).nK),.int ((((oC k).1).rq).Count),.bool (((oC k).1).Zo),.int (((oC k).1).Zm)]])) (qy++[nt.enc ((oT oz (⟨qN⟩:na) 0 (((oC k).1).Ring) ((oC k).2)).2.2.1)]) (qz++([[.int v,.int sA,.int sB,.int sC,.bool sD,.bool sE]])) (qA++([[.bool false]]))
      else jX
     else jX
    else jX
   else jX
  else jX
 else k_ (⟨(⟨qN⟩:na),oz,(⟨(⟨h,u6,h_2,u7⟩:ny),(⟨u9,u_,va,oG⟩:nt),nV,vb⟩:nH),qx,qy,qz,qA,(⟨vc,vd,pU⟩:nm),(⟨pV,(⟨pW⟩:ni),(⟨pO,pX⟩:nz)⟩:nj),[],ng,[],[],[],(⟨pP,pQ,pR,pS,pT⟩:og)⟩:nB) true
def pH (k_:nB→Bool→α) (N:Nat) (nf v sA sB sC:Int) (sD sE:Bool) (h u6 h_2 u7 u9 u_ va vb vc:Int) (vd:Bool) (pO:Bytes) (ng:Bool) (pP pQ pR pS pT:Int) (oz oG nV pU pV pW pX:Rows) (m_:Nat):Int→Rows→Rows→Rows→Rows→Rows→α:=
 Nat.rec (motive:=fun _=>Int→Rows→Rows→Rows→Rows→Rows→α) (fun _ _ _ _ _ _=>jX) (fun _ ih1=>uL jX k_ nf v sA sB sC sD sE h u6 h_2 u7 u9 u_ va vb vc vd pO ng pP pQ pR pS pT oz oG nV pU pV pW pX ih1) m_
theorem Qs (k_:nB→Bool→α) (N:Nat) (nf v sA sB sC:Int) (sD sE:Bool) (h u6 h_2 u7 u9 u_ va vb vc:Int) (vd:Bool) (pO:Bytes) (ng:Bool) (pP pQ pR pS pT:Int) (oz oG nV pU pV pW pX:Rows) (m_:Nat):pH jX k_ N nf v sA sB sC sD sE h u6 h_2 u7 u9 u_ va vb vc vd pO ng pP pQ pR pS pT oz oG nV pU pV pW pX (m_+1)=uL jX k_ nf v sA sB sC sD sE h u6 h_2 u7 u9 u_ va vb vc vd pO ng pP pQ pR pS pT oz oG nV pU pV pW pX (pH jX k_ N nf v sA sB sC sD sE h u6 h_2 u7 u9 u_ va vb vc vd pO ng pP pQ pR pS pT oz oG nV pU pV pW pX m_):=rfl
def qL (k_:nB→Bool→α) (N:Nat) (nf v sA sB sC:Int) (sD sE:Bool) (h u6 h_2 u7 u9 u_ va vb vc:Int) (vd:Bool) (pO:Bytes) (ng:Bool) (pP pQ pR pS pT:Int) (zh oG nV pU pV pW pX:Rows) (m_:Nat):Int→Rows→α:=
 Nat.rec (motive:=fun _=>Int→Rows→α) (fun _ _=>jX) (fun _ ox=>uK jX k_ (fun oz=>pH jX k_ N nf v sA sB sC sD sE h u6 h_2 u7 u9 u_ va vb vc vd pO ng pP pQ pR pS pT oz oG nV pU pV pW pX N) nf v sA sB sC sD sE h u6 h_2 u7 u9 u_ va vb vc vd pO ng pP pQ pR pS pT zh oG nV pU pV pW pX ox) m_
theorem Qr (k_:nB→Bool→α) (N:Nat) (nf v sA sB sC:Int) (sD sE:Bool) (h u6 h_2 u7 u9 u_ va vb vc:Int) (vd:Bool) (pO:Bytes) (ng:Bool) (pP pQ pR pS pT:Int) (zh oG nV pU pV pW pX:Rows) (m_:Nat) (p:Int) (oz:Rows):qL jX k_ N nf v sA sB sC sD sE h u6 h_2 u7 u9 u_ va vb vc vd pO ng pP pQ pR pS pT zh oG nV pU pV pW pX (m_+1) p oz=uK jX k_ (fun oz=>pH jX k_ N nf v sA sB sC sD sE h u6 h_2 u7 u9 u_ va vb vc vd pO ng pP pQ pR pS pT oz oG nV pU pV pW pX N) nf v sA sB sC sD sE h u6 h_2 u7 u9 u_ va vb vc vd pO ng pP pQ pR pS pT zh oG nV pU pV pW pX (qL jX k_ N nf v sA sB sC sD sE h u6 h_2 u7 u9 u_ va vb vc vd pO ng pP pQ pR pS pT zh oG nV pU pV pW pX m_) p oz:=rfl
def yx (k_:nB→Bool→α) (l0:Int→Int→Int→Int→Bool→Bool→Int→Int→Int→Int→Int→Int→Int→Int→Int→Bool→Bytes→Int→Int→Int→Int→Int→Rows→Rows→Rows→Rows→Rows→Rows→Rows→Int→Rows→α) (nf:Int) (filter:nm) (nd:nj) (ng:Bool) (count time:Int):α:=
 bif bif !(nx nf 1 2) then true else bif !(Ou filter) then true else bif !(uk nd nf) then true else !((pd count time).2) then k_ (⟨(⟨[]⟩:na),[],(⟨(⟨0,0,0,0⟩:ny),(⟨0,0,0,[]⟩:nt),[],0⟩:nH),[],[],[],[],(⟨0,false,[]⟩:nm),(⟨[],(⟨[]⟩:ni),(⟨[],[]⟩:nz)⟩:nj),[],false,[],[],[],(⟨0,0,0,0,0⟩:og)⟩:nB) false
 else bif DZ (DZ true (U6 filter)) (Rc nd) then
   l0 (((pd count time).1).pn) (((pd count time).1).qc) (((pd count time).1).Count) (((pd count time).1).Time) (((pd count time).1).rH) (((pd count time).1).rD) nE.Ring.oB nE.Ring.nK nE.Ring.Head nE.Ring.pM nE.oq.oB nE.oq.nK nE.oq.Count nE.Next ((qY filter).Qe) ((qY filter).nN) (((qY nd).nG).Key) 0 0 0 0 0 ((pL 38).nF) nE.oq.nY nE.oS ((qY filter).nZ) ((qY nd).nP) (((qY nd).Table).nr) (((qY nd).nG).Table) 0 []
  else jX
def yw (k_:nB→Bool→α) (N:Nat) (nf:Int) (filter:nm) (nd:nj) (ng:Bool) (count time:Int):α:=yx jX k_ (fun v sA sB sC sD sE h u6 h_2 u7 u9 u_ va vb vc vd pO pP pQ pR pS pT zh oG nV pU pV pW pX=>qL jX k_ N nf v sA sB sC sD sE h u6 h_2 u7 u9 u_ va vb vc vd pO ng pP pQ pR pS pT zh oG nV pU pV pW pX N) nf filter nd ng count time
def njB (i:Nat):List DC:=[.int 0,.int (i:Int),.int (nR (37 - (i:Int))),.bool (!(nx (i:Int) 2 9))]
def vQ:Rows:=itN (fun i o=>o++[njB i]) 38 0 []
def nkv:nB:=⟨⟨[]⟩,[],⟨⟨0,0,0,0⟩,⟨0,0,0,[]⟩,[],0⟩,[],[],[],[],⟨0,false,[]⟩,⟨[],⟨[]⟩,⟨[],[]⟩⟩,[],false,[],[],[],⟨0,0,0,0,0⟩⟩
def nI (filter:nm) (nd:nj) (ng:Bool):nB:=⟨pL 38,vQ,nE,[],[],[],[],filter,nd,[],ng,[],[],[],⟨0,0,0,0,0⟩⟩
def nhF (m:na) (k:Int):na×ny×nt×Int:=oT vQ m 0 (niO k) (ndU k)
def XZ:Nat→na
 | 0=>pL 38
 | i+1=>(nhF (XZ i) (i:Int)).1
def x6 (v:nO) (i:Nat) (h:nB):nB:= {h with oD:=(nhF h.oD (i:Int)).1,Rx:=h.Rx++[nW.enc (nj7 (i:Int) (nhF h.oD (i:Int)).2.1 0)],ph:=h.ph++[nt.enc (nhF h.oD (i:Int)).2.2.1],oO:=h.oO++[nO.enc v],oN:=h.oN++[[.bool false]]}
def ncA (nf:Int) (filter:nm) (nd:nj) (ng:Bool) (count time:Int):Bool:=U6 filter && Rc nd
def xe (nf:Int) (filter:nm) (nd:nj) (ng:Bool) (count time:Int):nB×Bool:=
 bif bif !(nx nf 1 2) then true else bif !(Ou filter) then true else bif !(uk nd nf) then true else !((pd count time).2) then (nkv,false)
 else (itN (x6 (pd count time).1) nf.toNat 0 (nI filter nd ng),true)
theorem njG {a b:Bool} (h:(bif a then true else b)=false):a=false∧b=false:=by cases a<;>simp_all
theorem nh6 (l:Rows) (d:Int) (p:nt):∀(ks:Rows) (n:Int) (m:na) (r:ny),(neL l d p ks n m r).1.nF.length=m.nF.length∧(neL l d p ks n m r).2.2.1.nY.length≤ks.length
 | [],_,_,_=>⟨rfl,Nat.le_refl _⟩
 | k::ks,n,m,r=>by
  simp only[neL]
  cases (qq l m d r (qO ⟨3,0,p.nK,px p (rI k 0),0,rI k 0⟩)).2.2
  ·exact⟨rfl,Nat.le_refl _⟩
  ·obtain⟨h1,h2⟩:=nh6 l d p ks (nR (n+1)) (qq l m d r (qO ⟨3,0,p.nK,px p (rI k 0),0,rI k 0⟩)).1 (qq l m d r (qO ⟨3,0,p.nK,px p (rI k 0),0,rI k 0⟩)).2.1
   rw[S8] at h1
   exact⟨h1,Nat.le_succ_of_le h2⟩
theorem Zn (l:Rows) (m:na) (d:Int) (r:ny) (p:nt):(oT l m d r p).1.nF.length=m.nF.length∧(oT l m d r p).2.2.1.nY.length≤p.nY.length:=by
 unfold oT
 cases (bif !(sO r) then true else !(tP p))
 ·exact nh6 _ _ _ _ _ _ _
 ·exact⟨rfl,Nat.le_refl _⟩
theorem njJ (k:Int):(ndU k).nY.length≤4:=by
 unfold ndU uj
 cases tP (⟨nR (VY k+128),384,4,[]⟩:nt)
 ·exact Nat.zero_le _
 ·exact Nat.le_refl _
theorem WD:∀i,(XZ i).nF.length=38
 | 0=>by kernel_rfl
 | i+1=>(Zn _ _ _ _ _).1.trans (WD i)
theorem nfF:vQ.length=38:=by kernel_rfl
def nhI (filter:nm) (nd:nj) (ng:Bool) (i:Nat) (o:nB):Prop:=o= {nI filter nd ng with oD:=o.oD,Rx:=o.Rx,ph:=o.ph,oO:=o.oO,oN:=o.oN} ∧o.oD=XZ i∧o.Rx.length=i∧o.ph.length=i∧o.oO.length=i∧o.oN.length=i∧∀r∈o.ph,VX (nt.nh r 0)=true
theorem nfD (filter:nm) (nd:nj) (ng:Bool):nhI filter nd ng 0 (nI filter nd ng):=⟨rfl,rfl,rfl,rfl,rfl,rfl,by intro r hr;cases hr⟩
theorem nfE {filter:nm} {nd:nj} {ng:Bool} (v:nO) {i:Nat} {o:nB} (hi:i<2) (ho:nhI filter nd ng i o):nhI filter nd ng (i+1) (x6 v i o):=by
 obtain⟨m1,m2,m3,m4,m5,m6,m7⟩:=ho
 refine⟨?_, ?_, ?_, ?_, ?_, ?_, ?_⟩
 ·have this:=congrArg (fun x:nB=>({x with oD:=(x6 v i o).oD,Rx:=(x6 v i o).Rx,ph:=(x6 v i o).ph,oO:=(x6 v i o).oO,oN:=(x6 v i o).oN} :nB)) m1
  exact this
 ·show (nhF o.oD (i:Int)).1=(nhF (XZ i) (i:Int)).1
  rw[m2]
 ·show (o.Rx++[_]).length=_
  rw[List.length_append,m3];rfl
 ·show (o.ph++[_]).length=_
  rw[List.length_append,m4];rfl
 ·show (o.oO++[_]).length=_
  rw[List.length_append,m5];rfl
 ·show (o.oN++[_]).length=_
  rw[List.length_append,m6];rfl
 ·intro r hr
  have hr:r∈o.ph++[nt.enc (nhF o.oD (i:Int)).2.2.1]:=hr
  rcases List.mem_append.1 hr with hr | hr
  ·exact m7 r hr
  ·rw[List.mem_singleton.1 hr]
   have h1:=(Zn vQ o.oD 0 (niO (i:Int)) (ndU (i:Int))).2
   have h2:=njJ (i:Int)
   exact decide_eq_true (by show (nhF o.oD (i:Int)).2.2.1.nY.length≤_;unfold nhF;omega)
theorem njA {filter:nm} {nd:nj} {ng:Bool} (v:nO):∀(m i:Nat) (o:nB),i+m≤2→nhI filter nd ng i o→nhI filter nd ng (i+m) (itN (x6 v) m i o)
 | 0,_,_,_,h=>h
 | m+1,i,o,hm,h=>by
  have:=njA v m (i+1) (x6 v i o) (by omega) (nfE v (by omega) h)
  rw[show i+(m+1)=i+1+m by omega]
  exact this
theorem niA {nf:Int} {filter:nm} {nd:nj} {ng:Bool} {count time:Int} (h1:U6 filter=true) (h2:Rc nd=true):neM (xe nf filter nd ng count time).1=true:=by
 unfold xe
 cases hg:(bif !(nx nf 1 2) then true else bif !(Ou filter) then true else bif !(uk nd nf) then true else !((pd count time).2))
 ·obtain⟨aG,cu⟩:1≤nf∧nf≤2:=oX.1 (njE (njG hg).1)
  obtain⟨m1,m2,m3,m4,m5,m6,m7⟩:=njA (pd count time).1 nf.toNat 0 _ (by omega) (nfD filter nd ng)
  simp only[cond_false]
  generalize itN (x6 (pd count time).1) nf.toNat 0 (nI filter nd ng)=o at*
  have hm:=WD (0+nf.toNat)
  rw[m1]
  simp only[U6] at h1
  simp only[Rc,Bool.and_eq_true] at h2
  simp only[neM,naR,Bool.and_eq_true,List.all_eq_true]
  refine⟨decide_eq_true ?_,decide_eq_true ?_,by rfl,by rfl,decide_eq_true ?_,⟨decide_eq_true ?_,m7⟩,decide_eq_true ?_,decide_eq_true ?_,h1,h2.1,h2.2.1,h2.2.2,by rfl,by rfl,by rfl,by rfl⟩
  ·show o.oD.nF.length≤_
   rw[m2];omega
  ·show vQ.length≤_
   rw[nfF];omega
  ·show o.Rx.length≤_;omega
  ·show o.ph.length≤_;omega
  ·show o.oO.length≤_;omega
  ·show o.oN.length≤_;omega
 ·rfl
def nhZ (v:nO) (o:nB):nB:= {o with Rx:=o.Rx++[[.int 0,.int 0,.int 0,.int 0,.int 0,.int 0,.int 0,.int 0,.int 0,.int 0,.int 0,.int 0,.int 0,.int 0,.int 0,.int 0,.int 0,.int 0,.int 0,.int 0,.int 0,.int 0,.int 0,.int 0,.int 0,.str [],.int 0,.int 0,.bool false,.int 0]],ph:=o.ph++[[.int 0,.int 0,.int 0,.sl []]],oO:=o.oO++[nO.enc v],oN:=o.oN++[[.bool false]]}
theorem njC:(ub vQ (XZ 0) 0 (VY 0) (ux 128 0)).1=XZ 0:=by kernel_rfl
theorem njD:(ub vQ (XZ 1) 0 (VY 1) (ux 128 0)).1=XZ 1:=by kernel_rfl
theorem nj3 {i:Nat} (h:i<2):(ub vQ (XZ i) 0 (VY (i:Int)) (ux 128 0)).1=XZ i:=by
 rcases (show i=0∨i=1 by omega) with rfl | rfl
 ·exact njC
 ·exact njD
theorem nim {l:Rows} {i:Nat} (h:l.length=i) (x y:List DC):List.set (l++[x]) i y=l++[y]:=by subst h;simp
theorem njF {l:Rows} {i:Nat} (h:l.length=i) (x:List DC):nth (l++[x]) i=x:=by subst h;simp [nth]
theorem nj1 {filter:nm} {nd:nj} {ng:Bool} (v:nO) {i:Nat} {o:nB} (hi:i<2) (ho:nhI filter nd ng i o):Z5 (nhZ v o) (i:Int)=x6 v i o:=by
 obtain⟨m1,m2,m3,m4,m5,m6,m7⟩:=ho
 have f1:=congrArg nB.Maps m1
 replace f1:o.Maps=vQ:=f1
 have e1:opF (nhZ v o) (i:Int)=nhF o.oD (i:Int):=by
  show oT o.Maps (ub o.Maps o.oD 0 (VY (i:Int)) (ux 128 0)).1 0 (niO (i:Int)) (ndU (i:Int))=oT vQ o.oD 0 (niO (i:Int)) (ndU (i:Int))
  rw[f1,m2,nj3 hi]
 unfold Z5
 rw[e1,Int.toNat_natCast]
 have a1:∀x,List.set (nhZ v o).Rx i x=o.Rx++[x]:=fun x=>nim m3 _ x
 have a2:∀x,List.set (nhZ v o).ph i x=o.ph++[x]:=fun x=>nim m4 _ x
 have a3:nth (nhZ v o).Rx i=[.int 0,.int 0,.int 0,.int 0,.int 0,.int 0,.int 0,.int 0,.int 0,.int 0,.int 0,.int 0,.int 0,.int 0,.int 0,.int 0,.int 0,.int 0,.int 0,.int 0,.int 0,.int 0,.int 0,.int 0,.int 0,.str [],.int 0,.int 0,.bool false,.int 0]:=njF m3 _
 rw[a1,a2,a3]
 rfl
theorem nj2 {filter:nm} {nd:nj} {ng:Bool} (v:nO) {i:Nat} {o:nB} (hi:i<2) (ho:nhI filter nd ng i o):nhm (nhZ v o) (i:Int)=true:=by
 obtain⟨m1,m2,m3,m4,m5,m6,m7⟩:=ho
 have f1:=congrArg nB.Maps m1
 replace f1:o.Maps=vQ:=f1
 have hm:=WD i
 simp only[nhm,Bool.and_eq_true,decide_eq_true_eq]
 refine⟨⟨by omega, ?_, ?_⟩,decide_eq_true ?_,decide_eq_true ?_⟩
 ·show (i:Int)<len (o.Rx++[_])
  simp only[len,List.length_append,List.length_cons,List.length_nil];omega
 ·show (i:Int)<len (o.ph++[_])
  simp only[len,List.length_append,List.length_cons,List.length_nil];omega
 ·show o.Maps.length≤_
  rw[f1,nfF];omega
 ·show o.oD.nF.length≤_
  rw[m2];omega
theorem neN (k_:nB→Bool→α) (nf:Int) (filter:nm) (nd:nj) (ng:Bool) (count time:Int) (aI:ncA nf filter nd ng count time=true):∃N,yw jX k_ N nf filter nd ng count time=k_ (xe nf filter nd ng count time).1 (xe nf filter nd ng count time).2:=by
 have Hn:=aI
 simp only[ncA,Bool.and_eq_true] at Hn
 obtain⟨s1,s2⟩:=Hn
 refine⟨40, ?_⟩
 unfold yw yx xe
 refine qv (K:=fun z:nB×Bool=>k_ z.1 z.2) (fun _=>rfl) (fun hg=> ?_)
 refine rb (by rw[s1,s2];rfl) ?_
 obtain⟨aG,cu⟩:1≤nf∧nf≤2:=oX.1 (njE (njG hg).1)
 obtain⟨c,rfl⟩:∃c:Nat,nf=(c:Int):=⟨nf.toNat,by omega⟩
 generalize (pd count time).1=v
 have niH:pH jX k_ 40 (c:Int) v.pn v.qc v.Count v.Time v.rH v.rD nE.Ring.oB nE.Ring.nK nE.Ring.Head nE.Ring.pM nE.oq.oB nE.oq.nK nE.oq.Count nE.Next filter.Qe filter.nN nd.nG.Key ng 0 0 0 0 0 vQ nE.oq.nY nE.oS filter.nZ nd.nP nd.Table.nr nd.nG.Table 40 0 (pL 38).nF [] [] [] []=k_ (itN (x6 v) c 0 (nI filter nd ng)) true:=by
  refine xa c (fun n i (o:nB)=>pH jX k_ 40 (c:Int) v.pn v.qc v.Count v.Time v.rH v.rD nE.Ring.oB nE.Ring.nK nE.Ring.Head nE.Ring.pM nE.oq.oB nE.oq.nK nE.oq.Count nE.Next filter.Qe filter.nN nd.nG.Key ng 0 0 0 0 0 vQ nE.oq.nY nE.oS filter.nZ nd.nP nd.Table.nr nd.nG.Table n i o.oD.nF o.Rx o.ph o.oO o.oN) (x6 v) (fun o=>k_ o true) (nhI filter nd ng) ?_ ?_ ?_ 40 (nI filter nd ng) (nfD _ _ _) (by omega)
  ·intro i o hi ho
   exact nfE v (by omega) ho
  ·intro n i o hi ho
   have dT:=ho
   obtain⟨m1,m2,m3,m4,m5,m6,m7⟩:=dT
   have cl:decide ((i:Int)<(c:Int))=true:=decide_eq_true (by omega)
   have w1:nR ((i:Int)+1)=(i:Int)+1:=nT (by omega) (by omega)
   have r1:∀x:List DC,pK 248 o.Rx [x]=true:=fun x=>sb (by simp only[List.length_cons,List.length_nil];omega) (by omega)
   have r2:∀x:List DC,pK 48 o.ph [x]=true:=fun x=>sb (by simp only[List.length_cons,List.length_nil];omega) (by omega)
   have r3:∀x:List DC,pK 40 o.oO [x]=true:=fun x=>sb (by simp only[List.length_cons,List.length_nil];omega) (by omega)
   have r4:∀x:List DC,pK 1 o.oN [x]=true:=fun x=>sb (by simp only[List.length_cons,List.length_nil];omega) (by omega)
   show pH jX k_ 40 (c:Int) v.pn v.qc v.Count v.Time v.rH v.rD nE.Ring.oB nE.Ring.nK nE.Ring.Head nE.Ring.pM nE.oq.oB nE.oq.nK nE.oq.Count nE.Next filter.Qe filter.nN nd.nG.Key ng 0 0 0 0 0 vQ nE.oq.nY nE.oS filter.nZ nd.nP nd.Table.nr nd.nG.Table (n+1) (i:Int) o.oD.nF o.Rx o.ph o.oO o.oN=_
   rw[Qs]
   have hm:=WD i
   have bL:U8 vQ (⟨o.oD.nF⟩:na) 0 (niO (i:Int)) (ndU (i:Int))=true:=by
    simp only[U8,Bool.and_eq_true]
    exact⟨decide_eq_true (by show o.oD.nF.length≤_;rw[m2];omega),ni2 _⟩
   unfold uL
   refine (na9 cl).trans ?_
   refine rb (um bL) (rb (um (r1 _)) (rb (um (r2 _)) (rb (um (r3 _)) (rb (um (r4 _)) ?_))))
   rw[w1]
   rfl
  ·intro n o ho
   show pH jX k_ 40 (c:Int) v.pn v.qc v.Count v.Time v.rH v.rD nE.Ring.oB nE.Ring.nK nE.Ring.Head nE.Ring.pM nE.oq.oB nE.oq.nK nE.oq.Count nE.Next filter.Qe filter.nN nd.nG.Key ng 0 0 0 0 0 vQ nE.oq.nY nE.oS filter.nZ nd.nP nd.Table.nr nd.nG.Table (n+1) (c:Int) o.oD.nF o.Rx o.ph o.oO o.oN=_
   rw[Qs]
   unfold uL
   refine (nhz (decide_eq_false (by omega))).trans ?_
   exact congrArg (fun x=>k_ x true) ho.1.symm
 have r0:∀(i:Nat) (o:Rows) (x:List DC),i<38→o.length≤i→pK 32 o [x]=true:=fun i o x h1 h2=>sb (by simp only[List.length_cons,List.length_nil];omega) (by omega)
 have nku:qL jX k_ 40 (c:Int) v.pn v.qc v.Count v.Time v.rH v.rD nE.Ring.oB nE.Ring.nK nE.Ring.Head nE.Ring.pM nE.oq.oB nE.oq.nK nE.oq.Count nE.Next filter.Qe filter.nN nd.nG.Key ng 0 0 0 0 0 (pL 38).nF nE.oq.nY nE.oS filter.nZ nd.nP nd.Table.nr nd.nG.Table 40 0 []=pH jX k_ 40 (c:Int) v.pn v.qc v.Count v.Time v.rH v.rD nE.Ring.oB nE.Ring.nK nE.Ring.Head nE.Ring.pM nE.oq.oB nE.oq.nK nE.oq.Count nE.Next filter.Qe filter.nN nd.nG.Key ng 0 0 0 0 0 vQ nE.oq.nY nE.oS filter.nZ nd.nP nd.Table.nr nd.nG.Table 40 0 (pL 38).nF [] [] [] []:=by
  refine xa 38 (fun n i o=>qL jX k_ 40 (c:Int) v.pn v.qc v.Count v.Time v.rH v.rD nE.Ring.oB nE.Ring.nK nE.Ring.Head nE.Ring.pM nE.oq.oB nE.oq.nK nE.oq.Count nE.Next filter.Qe filter.nN nd.nG.Key ng 0 0 0 0 0 (pL 38).nF nE.oq.nY nE.oS filter.nZ nd.nP nd.Table.nr nd.nG.Table n i o) (fun i o=>o++[njB i]) (fun o=>pH jX k_ 40 (c:Int) v.pn v.qc v.Count v.Time v.rH v.rD nE.Ring.oB nE.Ring.nK nE.Ring.Head nE.Ring.pM nE.oq.oB nE.oq.nK nE.oq.Count nE.Next filter.Qe filter.nN nd.nG.Key ng 0 0 0 0 0 o nE.oq.nY nE.oS filter.nZ nd.nP nd.Table.nr nd.nG.Table 40 0 (pL 38).nF [] [] [] []) (fun i o=>o.length≤i) ?_ ?_ ?_ 40 [] (by simp) (by omega)
  ·intro i o hi ho
   simp only[List.length_append,List.length_cons,List.length_nil];omega
  ·intro n i o hi ho
   show qL jX k_ 40 (c:Int) v.pn v.qc v.Count v.Time v.rH v.rD nE.Ring.oB nE.Ring.nK nE.Ring.Head nE.Ring.pM nE.oq.oB nE.oq.nK nE.oq.Count nE.Next filter.Qe filter.nN nd.nG.Key ng 0 0 0 0 0 (pL 38).nF nE.oq.nY nE.oS filter.nZ nd.nP nd.Table.nr nd.nG.Table (n+1) (i:Int) o=_
   rw[Qr]
   unfold uK
   refine (na9 (decide_eq_true (by omega))).trans ?_
   refine rb (um (r0 i o _ hi ho)) ?_
   rw[nT (n:=(i:Int)+1) (by omega) (by omega)]
   rfl
  ·intro n o ho
   show qL jX k_ 40 (c:Int) v.pn v.qc v.Count v.Time v.rH v.rD nE.Ring.oB nE.Ring.nK nE.Ring.Head nE.Ring.pM nE.oq.oB nE.oq.nK nE.oq.Count nE.Next filter.Qe filter.nN nd.nG.Key ng 0 0 0 0 0 (pL 38).nF nE.oq.nY nE.oS filter.nZ nd.nP nd.Table.nr nd.nG.Table (n+1) 38 o=_
   rw[Qr]
   unfold uK
   exact nhz (decide_eq_false (by omega))
 exact nku.trans niH
def uX (k_:nB→Bool→α) (l1:Int→Int→Int→Int→Int→Int→Int→Int→Int→Int→Bool→Bytes→Bool→Int→Int→Int→Int→Int→Rows→Rows→Rows→Rows→Rows→Rows→Rows→Rows→Rows→Rows→Rows→Rows→Rows→Rows→Rows→Rows→α) (nf v sA sB sC:Int) (sD sE:Bool) (h u6 h_2 u7 u9 u_ va vb vc:Int) (vd:Bool) (pO:Bytes) (ng:Bool) (pP pQ pR pS pT:Int) (zh oG nV pU pV pW pX:Rows) (ox:Int→Rows→α) (p:Int) (oz:Rows):α:=
 bif decide (p<38) then
  bif DZ true (pK 32 oz ([[.int 0,.int p,.int (nR (37 - p)),.bool (!(nx p 2 9))]])) then
   ox (nR (p+1)) (oz++([[.int 0,.int p,.int (nR (37 - p)),.bool (!(nx p 2 9))]]))
  else jX
 else l1 0 h u6 h_2 u7 u9 u_ va vb vc vd pO ng pP pQ pR pS pT zh oz oG nV [] [] [] [] pU pV pW pX [] [] [] []
def uY (k_:nB→Bool→α) (nf v sA sB sC:Int) (sD sE:Bool) (ih1:Int→Int→Int→Int→Int→Int→Int→Int→Int→Int→Bool→Bytes→Bool→Int→Int→Int→Int→Int→Rows→Rows→Rows→Rows→Rows→Rows→Rows→Rows→Rows→Rows→Rows→Rows→Rows→Rows→Rows→Rows→α) (k Zt Zu Zv Zw Zx Zy Zz ZA Yb:Int) (Yc:Bool) (ZB:Bytes) (Yd:Bool) (ZC ZD ZE ZF ZG:Int) (qN OB Qk ym qx qy qz qA xH yn yo yp xI xJ xK xL:Rows):α:=
 let z0:nH:=(⟨(⟨Zt,Zu,Zv,Zw⟩:ny),(⟨Zx,Zy,Zz,Qk⟩:nt),ym,ZA⟩:nH)
 let z1:nj:=(⟨yn,(⟨yo⟩:ni),(⟨ZB,yp⟩:nz)⟩:nj)
 let z2:og:=(⟨ZC,ZD,ZE,ZF,ZG⟩:og)
 let z3:nB:=(⟨(⟨qN⟩:na),OB,z0,qx++([[.int 0,.int 0,.int 0,.int 0,.int 0,.int 0,.int 0,.int 0,.int 0,.int 0,.int 0,.int 0,.int 0,.int 0,.int 0,.int 0,.int 0,.int 0,.int 0,.int 0,.int 0,.int 0,.int 0,.int 0,.int 0,.str [],.int 0,.int 0,.bool false,.int 0]]),qy++([[.int 0,.int 0,.int 0,.sl []]]),qz++([[.int v,.int sA,.int sB,.int sC,.bool sD,.bool sE]]),qA++([[.bool false]]),(⟨Yb,Yc,xH⟩:nm),z1,xI,Yd,xJ,xK,xL,z2⟩:nB)
 let z4:nB:=Z5 z3 k
 let z5:nH:=z4.Tx
 let z6:ny:=z5.Ring
 let z7:nt:=z5.oq
 let z8:nm:=z4.Filter
 let z9:nj:=z4.nJ
 let z10:nz:=z9.nG
 let z11:og:=z4.Counters
 bif decide (k<nf) then
  bif DZ true (pK 248 qx ([[.int 0,.int 0,.int 0,.int 0,.int 0,.int 0,.int 0,.int 0,.int 0,.int 0,.int 0,.int 0,.int 0,.int 0,.int 0,.int 0,.int 0,.int 0,.int 0,.int 0,.int 0,.int 0,.int 0,.int 0,.int 0,.str [],.int 0,.int 0,.bool false,.int 0]])) then
   bif DZ true (pK 48 qy ([[.int 0,.int 0,.int 0,.sl []]])) then
    bif DZ true (pK 40 qz ([[.int v,.int sA,.int sB,.int sC,.bool sD,.bool sE]])) then
     bif DZ true (pK 1 qA ([[.bool false]])) then
      bif DZ true (nhm z3 k) then
       ih1 (nR (k+1)) z6.oB z6.nK z6.Head z6.pM z7.oB z7.nK z7.Count z5.Next z8.Qe z8.nN z10.Key z4.sN z11.Frames z11.Bad z11.uH z11.xf z11.Tk z4.oD.nF z4.Maps z7.nY z5.oS z4.Rx z4.ph z4.oO z4.oN z8.nZ z9.nP z9.Table.nr z10.Table z4.qD z4.zZ z4.pb z4.pA
      else jX
     else jX
    else jX
   else jX
  else jX
 else k_ (⟨(⟨qN⟩:na),OB,z0,qx,qy,qz,qA,(⟨Yb,Yc,xH⟩:nm),z1,xI,Yd,xJ,xK,xL,z2⟩:nB) true
def pq (k_:nB→Bool→α) (N:Nat) (nf v sA sB sC:Int) (sD sE:Bool) (m_:Nat):Int→Int→Int→Int→Int→Int→Int→Int→Int→Int→Bool→Bytes→Bool→Int→Int→Int→Int→Int→Rows→Rows→Rows→Rows→Rows→Rows→Rows→Rows→Rows→Rows→Rows→Rows→Rows→Rows→Rows→Rows→α:=
 Nat.rec (motive:=fun _=>Int→Int→Int→Int→Int→Int→Int→Int→Int→Int→Bool→Bytes→Bool→Int→Int→Int→Int→Int→Rows→Rows→Rows→Rows→Rows→Rows→Rows→Rows→Rows→Rows→Rows→Rows→Rows→Rows→Rows→Rows→α) (fun _ _ _ _ _ _ _ _ _ _ _ _ _ _ _ _ _ _ _ _ _ _ _ _ _ _ _ _ _ _ _ _ _ _=>jX) (fun _ ih1=>uY jX k_ nf v sA sB sC sD sE ih1) m_
theorem QX (k_:nB→Bool→α) (N:Nat) (nf v sA sB sC:Int) (sD sE:Bool) (m_:Nat):pq jX k_ N nf v sA sB sC sD sE (m_+1)=uY jX k_ nf v sA sB sC sD sE (pq jX k_ N nf v sA sB sC sD sE m_):=rfl
def qM (k_:nB→Bool→α) (N:Nat) (nf v sA sB sC:Int) (sD sE:Bool) (h u6 h_2 u7 u9 u_ va vb vc:Int) (vd:Bool) (pO:Bytes) (ng:Bool) (pP pQ pR pS pT:Int) (zh oG nV pU pV pW pX:Rows) (m_:Nat):Int→Rows→α:=
 Nat.rec (motive:=fun _=>Int→Rows→α) (fun _ _=>jX) (fun _ ox=>uX jX k_ (pq jX k_ N nf v sA sB sC sD sE N) nf v sA sB sC sD sE h u6 h_2 u7 u9 u_ va vb vc vd pO ng pP pQ pR pS pT zh oG nV pU pV pW pX ox) m_
theorem QW (k_:nB→Bool→α) (N:Nat) (nf v sA sB sC:Int) (sD sE:Bool) (h u6 h_2 u7 u9 u_ va vb vc:Int) (vd:Bool) (pO:Bytes) (ng:Bool) (pP pQ pR pS pT:Int) (zh oG nV pU pV pW pX:Rows) (m_:Nat) (p:Int) (oz:Rows):qM jX k_ N nf v sA sB sC sD sE h u6 h_2 u7 u9 u_ va vb vc vd pO ng pP pQ pR pS pT zh oG nV pU pV pW pX (m_+1) p oz=uX jX k_ (pq jX k_ N nf v sA sB sC sD sE N) nf v sA sB sC sD sE h u6 h_2 u7 u9 u_ va vb vc vd pO ng pP pQ pR pS pT zh oG nV pU pV pW pX (qM jX k_ N nf v sA sB sC sD sE h u6 h_2 u7 u9 u_ va vb vc vd pO ng pP pQ pR pS pT zh oG nV pU pV pW pX m_) p oz:=rfl
def yW (k_:nB→Bool→α) (l0:Int→Int→Int→Int→Bool→Bool→Int→Int→Int→Int→Int→Int→Int→Int→Int→Bool→Bytes→Int→Int→Int→Int→Int→Rows→Rows→Rows→Rows→Rows→Rows→Rows→Int→Rows→α) (nf:Int) (filter:nm) (nd:nj) (ng:Bool) (count time:Int):α:=
 bif bif !(nx nf 1 2) then true else bif !(Ou filter) then true else bif !(uk nd nf) then true else !((pd count time).2) then k_ (⟨(⟨[]⟩:na),[],(⟨(⟨0,0,0,0⟩:ny),(⟨0,0,0,[]⟩:nt),[],0⟩:nH),[],[],[],[],(⟨0,false,[]⟩:nm),(⟨[],(⟨[]⟩:ni),(⟨[],[]⟩:nz)⟩:nj),[],false,[],[],[],(⟨0,0,0,0,0⟩:og)⟩:nB) false
 else bif DZ (DZ true (U6 filter)) (Rc nd) then
   l0 (((pd count time).1).pn) (((pd count time).1).qc) (((pd count time).1).Count) (((pd count time).1).Time) (((pd count time).1).rH) (((pd count time).1).rD) nE.Ring.oB nE.Ring.nK nE.Ring.Head nE.Ring.pM nE.oq.oB nE.oq.nK nE.oq.Count nE.Next ((qY filter).Qe) ((qY filter).nN) (((qY nd).nG).Key) 0 0 0 0 0 ((pL 38).nF) nE.oq.nY nE.oS ((qY filter).nZ) ((qY nd).nP) (((qY nd).Table).nr) (((qY nd).nG).Table) 0 []
  else jX
def yV (k_:nB→Bool→α) (N:Nat) (nf:Int) (filter:nm) (nd:nj) (ng:Bool) (count time:Int):α:=yW jX k_ (fun v sA sB sC sD sE h u6 h_2 u7 u9 u_ va vb vc vd pO pP pQ pR pS pT zh oG nV pU pV pW pX=>qM jX k_ N nf v sA sB sC sD sE h u6 h_2 u7 u9 u_ va vb vc vd pO ng pP pQ pR pS pT zh oG nV pU pV pW pX N) nf filter nd ng count time
theorem nfK (k_:nB→Bool→α) (nf:Int) (filter:nm) (nd:nj) (ng:Bool) (count time:Int) (aI:ncA nf filter nd ng count time=true):∃N,yV jX k_ N nf filter nd ng count time=k_ (xe nf filter nd ng count time).1 (xe nf filter nd ng count time).2:=by
 have Hn:=aI
 simp only[ncA,Bool.and_eq_true] at Hn
 obtain⟨s1,s2⟩:=Hn
 refine⟨40, ?_⟩
 unfold yV yW xe
 refine qv (K:=fun z:nB×Bool=>k_ z.1 z.2) (fun _=>rfl) (fun hg=> ?_)
 refine rb (by rw[s1,s2];rfl) ?_
 obtain⟨aG,cu⟩:1≤nf∧nf≤2:=oX.1 (njE (njG hg).1)
 obtain⟨c,rfl⟩:∃c:Nat,nf=(c:Int):=⟨nf.toNat,by omega⟩
 generalize (pd count time).1=v
 have niH:pq jX k_ 40 (c:Int) v.pn v.qc v.Count v.Time v.rH v.rD 40 0 (nI filter nd ng).Tx.Ring.oB (nI filter nd ng).Tx.Ring.nK (nI filter nd ng).Tx.Ring.Head (nI filter nd ng).Tx.Ring.pM (nI filter nd ng).Tx.oq.oB (nI filter nd ng).Tx.oq.nK (nI filter nd ng).Tx.oq.Count (nI filter nd ng).Tx.Next (nI filter nd ng).Filter.Qe (nI filter nd ng).Filter.nN (nI filter nd ng).nJ.nG.Key (nI filter nd ng).sN (nI filter nd ng).Counters.Frames (nI filter nd ng).Counters.Bad (nI filter nd ng).Counters.uH (nI filter nd ng).Counters.xf (nI filter nd ng).Counters.Tk (nI filter nd ng).oD.nF (nI filter nd ng).Maps (nI filter nd ng).Tx.oq.nY (nI filter nd ng).Tx.oS (nI filter nd ng).Rx (nI filter nd ng).ph (nI filter nd ng).oO (nI filter nd ng).oN (nI filter nd ng).Filter.nZ (nI filter nd ng).nJ.nP (nI filter nd ng).nJ.Table.nr (nI filter nd ng).nJ.nG.Table (nI filter nd ng).qD (nI filter nd ng).zZ (nI filter nd ng).pb (nI filter nd ng).pA=k_ (itN (x6 v) c 0 (nI filter nd ng)) true:=by
  refine xa c (fun n i (o:nB)=>pq jX k_ 40 (c:Int) v.pn v.qc v.Count v.Time v.rH v.rD n i o.Tx.Ring.oB o.Tx.Ring.nK o.Tx.Ring.Head o.Tx.Ring.pM o.Tx.oq.oB o.Tx.oq.nK o.Tx.oq.Count o.Tx.Next o.Filter.Qe o.Filter.nN o.nJ.nG.Key o.sN o.Counters.Frames o.Counters.Bad o.Counters.uH o.Counters.xf o.Counters.Tk o.oD.nF o.Maps o.Tx.oq.nY o.Tx.oS o.Rx o.ph o.oO o.oN o.Filter.nZ o.nJ.nP o.nJ.Table.nr o.nJ.nG.Table o.qD o.zZ o.pb o.pA) (x6 v) (fun o=>k_ o true) (nhI filter nd ng) ?_ ?_ ?_ 40 (nI filter nd ng) (nfD _ _ _) (by omega)
  ·intro i o hi ho
   exact nfE v (by omega) ho
  ·intro n i o hi ho
   have dT:=ho
   obtain⟨m1,m2,m3,m4,m5,m6,m7⟩:=dT
   have cl:decide ((i:Int)<(c:Int))=true:=decide_eq_true (by omega)
   have w1:nR ((i:Int)+1)=(i:Int)+1:=nT (by omega) (by omega)
   have r1:∀x:List DC,pK 248 o.Rx [x]=true:=fun x=>sb (by simp only[List.length_cons,List.length_nil];omega) (by omega)
   have r2:∀x:List DC,pK 48 o.ph [x]=true:=fun x=>sb (by simp only[List.length_cons,List.length_nil];omega) (by omega)
   have r3:∀x:List DC,pK 40 o.oO [x]=true:=fun x=>sb (by simp only[List.length_cons,List.length_nil];omega) (by omega)
   have r4:∀x:List DC,pK 1 o.oN [x]=true:=fun x=>sb (by simp only[List.length_cons,List.length_nil];omega) (by omega)
   show pq jX k_ 40 (c:Int) v.pn v.qc v.Count v.Time v.rH v.rD (n+1) (i:Int) o.Tx.Ring.oB o.Tx.Ring.nK o.Tx.Ring.Head o.Tx.Ring.pM o.Tx.oq.oB o.Tx.oq.nK o.Tx.oq.Count o.Tx.Next o.Filter.Qe o.Filter.nN o.nJ.nG.Key o.sN o.Counters.Frames o.Counters.Bad o.Counters.uH o.Counters.xf o.Counters.Tk o.oD.nF o.Maps o.Tx.oq.nY o.Tx.oS o.Rx o.ph o.oO o.oN o.Filter.nZ o.nJ.nP o.nJ.Table.nr o.nJ.nG.Table o.qD o.zZ o.pb o.pA=_
   rw[QX]
   have Gv:=nj2 v (by omega) ho
   have KB:=nj1 v (by omega) ho
   unfold uY
   refine (na9 cl).trans ?_
   refine rb (um (r1 _)) (rb (um (r2 _)) (rb (um (r3 _)) (rb (um (r4 _)) (rb (um Gv) ?_))))
   rw[w1]
   exact congrArg (fun x:nB=>pq jX k_ 40 (c:Int) v.pn v.qc v.Count v.Time v.rH v.rD n ((i:Int)+1) x.Tx.Ring.oB x.Tx.Ring.nK x.Tx.Ring.Head x.Tx.Ring.pM x.Tx.oq.oB x.Tx.oq.nK x.Tx.oq.Count x.Tx.Next x.Filter.Qe x.Filter.nN x.nJ.nG.Key x.sN x.Counters.Frames x.Counters.Bad x.Counters.uH x.Counters.xf x.Counters.Tk x.oD.nF x.Maps x.Tx.oq.nY x.Tx.oS x.Rx x.ph x.oO x.oN x.Filter.nZ x.nJ.nP x.nJ.Table.nr x.nJ.nG.Table x.qD x.zZ x.pb x.pA) KB
  ·intro n o ho
   show pq jX k_ 40 (c:Int) v.pn v.qc v.Count v.Time v.rH v.rD (n+1) (c:Int) o.Tx.Ring.oB o.Tx.Ring.nK o.Tx.Ring.Head o.Tx.Ring.pM o.Tx.oq.oB o.Tx.oq.nK o.Tx.oq.Count o.Tx.Next o.Filter.Qe o.Filter.nN o.nJ.nG.Key o.sN o.Counters.Frames o.Counters.Bad o.Counters.uH o.Counters.xf o.Counters.Tk o.oD.nF o.Maps o.Tx.oq.nY o.Tx.oS o.Rx o.ph o.oO o.oN o.Filter.nZ o.nJ.nP o.nJ.Table.nr o.nJ.nG.Table o.qD o.zZ o.pb o.pA=_
   rw[QX]
   unfold uY
   refine (nhz (decide_eq_false (by omega))).trans ?_
   rfl
 have r0:∀(i:Nat) (o:Rows) (x:List DC),i<38→o.length≤i→pK 32 o [x]=true:=fun i o x h1 h2=>sb (by simp only[List.length_cons,List.length_nil];omega) (by omega)
 have nku:qM jX k_ 40 (c:Int) v.pn v.qc v.Count v.Time v.rH v.rD nE.Ring.oB nE.Ring.nK nE.Ring.Head nE.Ring.pM nE.oq.oB nE.oq.nK nE.oq.Count nE.Next filter.Qe filter.nN nd.nG.Key ng 0 0 0 0 0 (pL 38).nF nE.oq.nY nE.oS filter.nZ nd.nP nd.Table.nr nd.nG.Table 40 0 []=pq jX k_ 40 (c:Int) v.pn v.qc v.Count v.Time v.rH v.rD 40 0 (nI filter nd ng).Tx.Ring.oB (nI filter nd ng).Tx.Ring.nK (nI filter nd ng).Tx.Ring.Head (nI filter nd ng).Tx.Ring.pM (nI filter nd ng).Tx.oq.oB (nI filter nd ng).Tx.oq.nK (nI filter nd ng).Tx.oq.Count (nI filter nd ng).Tx.Next (nI filter nd ng).Filter.Qe (nI filter nd ng).Filter.nN (nI filter nd ng).nJ.nG.Key (nI filter nd ng).sN (nI filter nd ng).Counters.Frames (nI filter nd ng).Counters.Bad (nI filter nd ng).Counters.uH (nI filter nd ng).Counters.xf (nI filter nd ng).Counters.Tk (nI filter nd ng).oD.nF (nI filter nd ng).Maps (nI filter nd ng).Tx.oq.nY (nI filter nd ng).Tx.oS (nI filter nd ng).Rx (nI filter nd ng).ph (nI filter nd ng).oO (nI filter nd ng).oN (nI filter nd ng).Filter.nZ (nI filter nd ng).nJ.nP (nI filter nd ng).nJ.Table.nr (nI filter nd ng).nJ.nG.Table (nI filter nd ng).qD (nI filter nd ng).zZ (nI filter nd ng).pb (nI filter nd ng).pA:=by
  refine xa 38 (fun n i o=>qM jX k_ 40 (c:Int) v.pn v.qc v.Count v.Time v.rH v.rD nE.Ring.oB nE.Ring.nK nE.Ring.Head nE.Ring.pM nE.oq.oB nE.oq.nK nE.oq.Count nE.Next filter.Qe filter.nN nd.nG.Key ng 0 0 0 0 0 (pL 38).nF nE.oq.nY nE.oS filter.nZ nd.nP nd.Table.nr nd.nG.Table n i o) (fun i o=>o++[njB i]) (fun o=>pq jX k_ 40 (c:Int) v.pn v.qc v.Count v.Time v.rH v.rD 40 0 ({nI filter nd ng with Maps:=o} :nB).Tx.Ring.oB ({nI filter nd ng with Maps:=o} :nB).Tx.Ring.nK ({nI filter nd ng with Maps:=o} :nB).Tx.Ring.Head ({nI filter nd ng with Maps:=o} :nB).Tx.Ring.pM ({nI filter nd ng with Maps:=o} :nB).Tx.oq.oB ({nI filter nd ng with Maps:=o} :nB).Tx.oq.nK ({nI filter nd ng with Maps:=o} :nB).Tx.oq.Count ({nI filter nd ng with Maps:=o} :nB).Tx.Next ({nI filter nd ng with Maps:=o} :nB).Filter.Qe ({nI filter nd ng with Maps:=o} :nB).Filter.nN ({nI filter nd ng with Maps:=o} :nB).nJ.nG.Key ({nI filter nd ng with Maps:=o} :nB).sN ({nI filter nd ng with Maps:=o} :nB).Counters.Frames ({nI filter nd ng with Maps:=o} :nB).Counters.Bad ({nI filter nd ng with Maps:=o} :nB).Counters.uH ({nI filter nd ng with Maps:=o} :nB).Counters.xf ({nI filter nd ng with Maps:=o} :nB).Counters.Tk ({nI filter nd ng with Maps:=o} :nB).oD.nF ({nI filter nd ng with Maps:=o} :nB).Maps ({nI filter nd ng with Maps:=o} :nB).Tx.oq.nY ({nI filter nd ng with Maps:=o} :nB).Tx.oS ({nI filter nd ng with Maps:=o} :nB).Rx ({nI filter nd ng with Maps:=o} :nB).ph ({nI filter nd ng with Maps:=o} :nB).oO ({nI filter nd ng with Maps:=o} :nB).oN ({nI filter nd ng with Maps:=o} :nB).Filter.nZ ({nI filter nd ng with Maps:=o} :nB).nJ.nP ({nI filter nd ng with Maps:=o} :nB).nJ.Table.nr ({nI filter nd ng with Maps:=o} :nB).nJ.nG.Table ({nI filter nd ng with Maps:=o} :nB).qD ({nI filter nd ng with Maps:=o} :nB).zZ ({nI filter nd ng with Maps:=o} :nB).pb ({nI filter nd ng with Maps:=o} :nB).pA) (fun i o=>o.length≤i) ?_ ?_ ?_ 40 [] (by simp) (by omega)
  ·intro i o hi ho
   simp only[List.length_append,List.length_cons,List.length_nil];omega
  ·intro n i o hi ho
   show qM jX k_ 40 (c:Int) v.pn v.qc v.Count v.Time v.rH v.rD nE.Ring.oB nE.Ring.nK nE.Ring.Head nE.Ring.pM nE.oq.oB nE.oq.nK nE.oq.Count nE.Next filter.Qe filter.nN nd.nG.Key ng 0 0 0 0 0 (pL 38).nF nE.oq.nY nE.oS filter.nZ nd.nP nd.Table.nr nd.nG.Table (n+1) (i:Int) o=_
   rw[QW]
   unfold uX
   refine (na9 (decide_eq_true (by omega))).trans ?_
   refine rb (um (r0 i o _ hi ho)) ?_
   rw[nT (n:=(i:Int)+1) (by omega) (by omega)]
   rfl
  ·intro n o ho
   show qM jX k_ 40 (c:Int) v.pn v.qc v.Count v.Time v.rH v.rD nE.Ring.oB nE.Ring.nK nE.Ring.Head nE.Ring.pM nE.oq.oB nE.oq.nK nE.oq.Count nE.Next filter.Qe filter.nN nd.nG.Key ng 0 0 0 0 0 (pL 38).nF nE.oq.nY nE.oS filter.nZ nd.nP nd.Table.nr nd.nG.Table (n+1) 38 o=_
   rw[QW]
   unfold uX
   exact nhz (decide_eq_false (by omega))
 exact nku.trans niH
theorem nkE {a:nm} {b:nj} (s0:sm a.nZ=true) (s1:sm b.nP=true) (s2:sm b.Table.nr=true) (s3:sm b.nG.Table=true):∃(K K2:Int) (P Q R S:Rows),qI a 1=true∧rk a 1=(K,P)∧pJ b K=true∧pg b K=(K2,Q,R,S)∧0≤K2:=by
 have l0:=sX s0
 obtain⟨K0,hK0⟩:∃K:Int,K=1+1*(a.nZ.length:Int):=⟨_,rfl⟩
 have o0:wY 1 a.nZ 1=true:=tU s0 (by omega) (by omega)
 have e0:p7 a.nZ 1=(K0,(sn pF 1 a.nZ.length 1)):=by rw[hK0];rfl
 have b0:0≤K0∧K0≤16777217:=by omega
 clear hK0
 have l1:=sX s1
 obtain⟨K1,hK1⟩:∃K:Int,K=K0+9*(b.nP.length:Int):=⟨_,rfl⟩
 have o1:wY 9 b.nP K0=true:=tU s1 (by omega) (by omega)
 have e1:wB b.nP K0=(K1,(sn Ox 9 b.nP.length K0)):=by rw[hK1];rfl
 have b1:0≤K1∧K1≤167772161:=by omega
 clear hK1
 have l2:=sX s2
 obtain⟨K2,hK2⟩:∃K:Int,K=K1+7*(b.Table.nr.length:Int):=⟨_,rfl⟩
 have o2:wY 7 b.Table.nr K1=true:=tU s2 (by omega) (by omega)
 have e2:ye b.Table.nr K1=(K2,(sn Oy 7 b.Table.nr.length K1)):=by rw[hK2];rfl
 have b2:0≤K2∧K2≤285212673:=by omega
 clear hK2
 have l3:=sX s3
 obtain⟨K3,hK3⟩:∃K:Int,K=K2+1*(b.nG.Table.length:Int):=⟨_,rfl⟩
 have o3:wY 1 b.nG.Table K2=true:=tU s3 (by omega) (by omega)
 have e3:p7 b.nG.Table K2=(K3,(sn pF 1 b.nG.Table.length K2)):=by rw[hK3];rfl
 have b3:0≤K3∧K3≤301989889:=by omega
 clear hK3
 refine⟨K0,K3,(sn pF 1 a.nZ.length 1),(sn Ox 9 b.nP.length K0),(sn Oy 7 b.Table.nr.length K1),(sn pF 1 b.nG.Table.length K2), ?_, ?_, ?_, ?_,b3.1⟩
 ·simp only[qI,rk,pZ,qt,qJ,pe,rO,sW,p6,pJ,pg,po,Option.getD_some,e0,e1,e2,e3,o0,o1,o2,o3,nk,nn,cond_true]
 ·simp only[qI,rk,pZ,qt,qJ,pe,rO,sW,p6,pJ,pg,po,Option.getD_some,e0,e1,e2,e3,o0,o1,o2,o3,nk,nn,cond_true]
 ·simp only[qI,rk,pZ,qt,qJ,pe,rO,sW,p6,pJ,pg,po,Option.getD_some,e0,e1,e2,e3,o0,o1,o2,o3,nk,nn,cond_true]
 ·simp only[qI,rk,pZ,qt,qJ,pe,rO,sW,p6,pJ,pg,po,Option.getD_some,e0,e1,e2,e3,o0,o1,o2,o3,nk,nn,cond_true]
theorem nj9 {a:nm} {b:nj} (h:qs a=true) (h2:pD b=true):sm a.nZ=true∧sm b.nP=true∧sm b.Table.nr=true∧sm b.nG.Table=true:=by
 simp only[qs,xr,pD,vA,rp,uA,sM,xt,nk,f0,nkm,Bool.and_eq_true,and_true,true_and] at h h2
 exact⟨h,h2⟩
def za (k_:Bool→α) (zQ:Int) (qW:nm) (pN:nj) (u4:Bool) (Re Xa:Int):α:=
 let z0:Bool:=ncA zQ (qY qW) (qY pN) u4 Re Xa
 let z1:Bool:=DZ (DZ (DZ true (qs qW)) (pD pN)) z0
 let z2:nB×Bool:=xe zQ (qY qW) (qY pN) u4 Re Xa
 let z3:Bool:= !(om z2.1 z2.1)
 let z4:Bool:=DZ true (same z2.1 z2.1)
 let z5:Bool:=LG z3 z4 z4
 let z6:Bool:=bif z3 then true else !(z2.2==z2.2)
 let z7:Bool:=decide ((pg (qY pN) ((rk (qY qW) 1).1)).1<0)
 let z8:Int×Rows×Rows×Rows×Rows×Rows×Rows×Rows×Rows×Rows×Rows×Rows×Rows×Rows×Rows×Rows×Rows:=oF z2.1 1
 let z9:nt:=z2.1.Tx.oq
 let z10:nB:=(⟨(⟨z8.2.1⟩:na),z8.2.2.1,(⟨z2.1.Tx.Ring,(⟨z9.oB,z9.nK,z9.Count,z8.2.2.2.1⟩:nt),z8.2.2.2.2.1,z2.1.Tx.Next⟩:nH),z8.2.2.2.2.2.1,z8.2.2.2.2.2.2.1,z8.2.2.2.2.2.2.2.1,z8.2.2.2.2.2.2.2.2.1,(⟨z2.1.Filter.Qe,z2.1.Filter.nN,z8.2.2.2.2.2.2.2.2.2.1⟩:nm),(⟨z8.2.2.2.2.2.2.2.2.2.2.1,(⟨z8.2.2.2.2.2.2.2.2.2.2.2.1⟩:ni),(⟨z2.1.nJ.nG.Key,z8.2.2.2.2.2.2.2.2.2.2.2.2.1⟩:nz)⟩:nj),z8.2.2.2.2.2.2.2.2.2.2.2.2.2.1,z2.1.sN,z8.2.2.2.2.2.2.2.2.2.2.2.2.2.2.1,z8.2.2.2.2.2.2.2.2.2.2.2.2.2.2.2.1,z8.2.2.2.2.2.2.2.2.2.2.2.2.2.2.2.2,z2.1.Counters⟩:nB)
 let z11:Bool:=DZ true (yb z10 1)
 let z12:Int:=RN z10 1
 let z13:Bool:=decide (z12<0)
 let z14:Bool:=z12 != z8.1
 bif decide (rN qW 1048576<0) then k_ true
 else bif decide (sj pN (rN qW 1048576)<0) then k_ true
 else bif z1 then
   bif DZ true (qs qW) then
    bif DZ true (pD pN) then
     bif DZ true z0 then
      bif z5 then
       bif z6 then k_ false
       else bif DZ (DZ true (qs qW)) (same (qY qW) (qY qW)) then
         bif !(om (qY qW) (qY qW)) then k_ false
         else bif DZ (DZ true (pD pN)) (same (qY pN) (qY pN)) then
           bif !(om (qY pN) (qY pN)) then k_ false
           else bif DZ true (qI (qY qW) 1) then
             bif DZ true (pJ (qY pN) ((rk (qY qW) 1).1)) then
              bif LG z7 true z5 then
               bif bif z7 then true else z6 then k_ false
               else bif DZ true (yd z2.1 1) then
                 bif z11 then
                  bif z13 then k_ false
                  else bif z14 then k_ false
                  else bif z1 then
                    bif z5 then
                     bif z6 then k_ false
                     else bif z11 then
                       bif z13 then k_ false
                       else bif z14 then k_ false
                       else k_ true
                      else jX
                    else jX
                   else jX
                 else jX
                else jX
              else jX
             else jX
            else jX
          else jX
        else jX
      else jX
     else jX
    else jX
   else jX
  else jX
theorem U0 (k_:Bool→α) (zQ:Int) (qW:nm) (pN:nj) (u4:Bool) (Re Xa:Int) (nhj:GO .i (.int zQ)) (na_:jV nm.ct qW.enc) (U9:jV nj.ct pN.enc) (ncy:GO .bool (.bool u4)) (nh7:GO .i (.int Re)) (niX:GO .i (.int Xa)) (aI:Qg (.i::(nm.ct++(nj.ct++(.bool::(.i::(.i::([]))))))) (.int zQ::(qW.enc++(pN.enc++(.bool u4::(.int Re::(.int Xa::([])))))))=true):za jX k_ zQ qW pN u4 Re Xa=k_ true:=by
 unfold za
 by_cases c0:rN qW 1048576<0
 ·simp only[c0,decide_true,decide_false,cond_true,cond_false]
 have k0:=nb4 na_ (by omega) (by omega) (Int.not_lt.1 c0)
 by_cases c1:sj pN (rN qW 1048576)<0
 ·simp only[c0,c1,decide_true,decide_false,cond_true,cond_false]
 have k1:=YU U9 (Int.not_lt.1 c0) k0.1 (Int.not_lt.1 c1)
 obtain⟨t0,t1,t2,t3⟩:=nj9 k0.2 k1.2
 have ht:ncA zQ qW pN u4 Re Xa=true:=by simp only[ncA,U6,Rc,t0,t1,t2,t3,Bool.and_self]
 have hs2:neM (xe zQ qW pN u4 Re Xa).1=true:=niA t0 (by simp only[Rc,t1,t2,t3,Bool.and_self])
 obtain⟨K,K2,P,Q,R,S,mf0,mf1,mf2,mf3,mf4⟩:=nkE t0 t1 t2 t3
 have mf5:¬K2<0:=by omega
 obtain⟨J,Q0,Q1,Q2,Q3,Q4,Q5,Q6,Q7,Q8,Q9,Q10,Q11,Q12,Q13,Q14,Q15,nh0,nh1,nh2,nh3,nh4⟩:=njZ hs2
 have nh5:¬J<0:=by omega
 simp only[c0,c1,decide_false,cond_false,cond_true,qY,k0.2,k1.2,ht,mf0,mf1,mf2,mf3,mf5,nh0,nh1,nh3,nh4,nh5,nk,nn,oI,om,beq_self_eq_true,bne_self_eq_false,Bool.not_true,nb9]
end
end Go.Proofs.YtoaflbnkiobhdaaGreat.Pl
