/- What functions of the program compute, in plain Lean, as the value machine runs them. Conditions: none. -/
import Derived.Test.YthpmalpdnnbkgaaGreatPTq
set_option linter.unusedVariables false
set_option linter.unusedSimpArgs false
set_option maxRecDepth 100000
namespace Go.Proofs.YthpmalpdnnbkgaaGreat.Pl
open Vm
noncomputable section
def xH {α:Type} (bad:α) (k_:Int→α) (x:Int) (bz:Rows) (bZ:Int→Int→α) (n:Int) (bl:Int):α:=
 bif decide (bl<x) then
  bif ak (ak true (idx bl bz)) (inl (Int.toNat bl) bz) then
   bif ak true (Bi (rI (nth bz (Int.toNat bl)) 0) 8) then
    bZ (w64 (n+(MO (rI (nth bz (Int.toNat bl)) 0) 8))) (w64 (bl+1))
   else bad
  else bad
 else k_ (Int.tmod n 8)
def fe {α:Type} (bad:α) (k_:Int→α) (N:Nat) (x:Int) (bz:Rows) (m_:Nat):Int→Int→α:=
 Nat.rec (motive:=fun _=>Int→Int→α) (fun _ _=>bad) (fun _ bZ=>xH bad k_ x bz bZ) m_
theorem IM {α:Type} (bad:α) (k_:Int→α) (N:Nat) (x:Int) (bz:Rows) (m_:Nat) (n:Int) (bl:Int):fe bad k_ N x bz (m_+1) n bl=xH bad k_ x bz (fe bad k_ N x bz m_) n bl:=rfl
def zD {α:Type} (bad:α) (k_:Int→α) (l0:Int→Rows→Int→Int→α) (f:bh):α:=
 l0 5 ([[.int f.Kind],[.int f.eb],[.int f.fb],[.int f.dt],[.int f.du]]) 0 0
def zC {α:Type} (bad:α) (k_:Int→α) (N:Nat) (f:bh):α:=zD bad k_ (fun x bz=>fe bad k_ N x bz N) f
def hmL (f:bh):Rows:=[[.int f.Kind],[.int f.eb],[.int f.fb],[.int f.dt],[.int f.du]]
def hmN (f:bh):Int:=f.Kind % 8+f.eb % 8+f.fb % 8+f.dt % 8+f.du % 8
def dY (f:bh):Int:=hmN f % 8
theorem abA (f:bh):0≤hmN f:=by unfold hmN;omega
theorem MT (f:bh):0≤dY f∧dY f<8:=by unfold dY;omega
theorem abB (f:bh):itN (fun i s=>s+(rI (nth (hmL f) i) 0) % 8) 5 0 0=hmN f:=by
 show 0+f.Kind % 8+f.eb % 8+f.fb % 8+f.dt % 8+f.du % 8=hmN f
 unfold hmN
 omega
theorem ab9 {α:Type} (bad:α) (k_:Int→α) (f:bh) (Nb:WtL bh.ct f.enc):∃N,zC bad k_ N f=k_ (dY f):=by
 have hb:∀i,i<5→ -9223372036854775808≤rI (nth (hmL f) i) 0∧rI (nth (hmL f) i) 0≤9223372036854775807:=by
  intro i hi
  rcases i with _ | _ | _ | _ | _ | i
  ·exact Ex (bh.afB Nb)
  ·exact Ex (bh.Xy Nb)
  ·exact Ex (bh.aiz Nb)
  ·exact Ex (bh.UG Nb)
  ·exact Ex (bh.UH Nb)
  ·omega
 refine⟨6, ?_⟩
 unfold zC zD
 have key:fe bad k_ 6 5 (hmL f) 6 0 0=k_ (Int.tmod (itN (fun i s=>s+(rI (nth (hmL f) i) 0) % 8) 5 0 0) 8):=by
  refine IJ 5 (fun n i s=>fe bad k_ 6 5 (hmL f) n s i) (fun i s=>s+(rI (nth (hmL f) i) 0) % 8) (fun s=>k_ (Int.tmod s 8)) (fun i s=>0≤s∧s≤7*(i:Int)) ?_ ?_ ?_ 6 0 ⟨by omega,by omega⟩ (by omega)
  ·intro i s hi hs
   obtain⟨h1,h2⟩:=hs
   refine⟨by omega,by omega⟩
  ·intro n i s hi hs
   obtain⟨h1,h2⟩:=hs
   have b:=hb i hi
   show fe bad k_ 6 5 (hmL f) (n+1) s (i:Int)=_
   rw[IM]
   have hl:i<(hmL f).length:=hi
   have w1:w64 ((i:Int)+1)=(i:Int)+1:=d8 (by omega) (by omega)
   have w2:w64 (s+(rI (nth (hmL f) i) 0) % 8)=s+(rI (nth (hmL f) i) 0) % 8:=d8 (by omega) (by omega)
   obtain⟨m1,m2⟩:=MV (x:=rI (nth (hmL f) i) 0) (n:=8) b.1 b.2 (by omega) (by omega)
   have hd:decide ((i:Int)<5)=true:=decide_eq_true (by omega)
   simp only[xH,hd,bw hl,eI hl,Int.toNat_natCast,m1,m2,w1,w2,ah,ao,cond_true]
  ·intro n s hs
   show fe bad k_ 6 5 (hmL f) (n+1) s ((5:Nat):Int)=_
   rw[IM]
   rfl
 refine key.trans ?_
 rw[abB]
 exact congrArg k_ (Int.tmod_eq_emod_of_nonneg (abA f))
def xI {α:Type} (bad:α) (k_:Int→α) (af:Rows) (bZ:Int→Int→α) (n:Int) (k:Int):α:=
 bif decide (k<len af) then
  bif ak (ak true (idx k af)) (inl (Int.toNat k) af) then
   bZ (w64 (n+(bits .and .i64 (rI (nth af (Int.toNat k)) 0) 7))) (w64 (k+1))
  else bad
 else k_ (Int.tmod n 8)
def ff {α:Type} (bad:α) (k_:Int→α) (N:Nat) (af:Rows) (m_:Nat):Int→Int→α:=
 Nat.rec (motive:=fun _=>Int→Int→α) (fun _ _=>bad) (fun _ bZ=>xI bad k_ af bZ) m_
theorem IP {α:Type} (bad:α) (k_:Int→α) (N:Nat) (af:Rows) (m_:Nat) (n:Int) (k:Int):ff bad k_ N af (m_+1) n k=xI bad k_ af (ff bad k_ N af m_) n k:=rfl
def zH {α:Type} (bad:α) (k_:Int→α) (l0:Rows→Int→Int→α) (f:bh):α:=
 l0 ([[.int f.Kind],[.int f.eb],[.int f.fb],[.int f.dt],[.int f.du]]) 0 0
def zG {α:Type} (bad:α) (k_:Int→α) (N:Nat) (f:bh):α:=zH bad k_ (fun af=>ff bad k_ N af N) f
theorem acd {α:Type} (bad:α) (k_:Int→α) (f:bh) (Nb:WtL bh.ct f.enc):∃N,zG bad k_ N f=k_ (dY f):=by
 have hb:∀i,i<5→ -9223372036854775808≤rI (nth (hmL f) i) 0∧rI (nth (hmL f) i) 0≤9223372036854775807:=by
  intro i hi
  rcases i with _ | _ | _ | _ | _ | i
  ·exact Ex (bh.afB Nb)
  ·exact Ex (bh.Xy Nb)
  ·exact Ex (bh.aiz Nb)
  ·exact Ex (bh.UG Nb)
  ·exact Ex (bh.UH Nb)
  ·omega
 refine⟨6, ?_⟩
 unfold zG zH
 have key:ff bad k_ 6 (hmL f) 6 0 0=k_ (Int.tmod (itN (fun i s=>s+(rI (nth (hmL f) i) 0) % 8) 5 0 0) 8):=by
  refine IJ 5 (fun n i s=>ff bad k_ 6 (hmL f) n s i) (fun i s=>s+(rI (nth (hmL f) i) 0) % 8) (fun s=>k_ (Int.tmod s 8)) (fun i s=>0≤s∧s≤7*(i:Int)) ?_ ?_ ?_ 6 0 ⟨by omega,by omega⟩ (by omega)
  ·intro i s hi hs
   obtain⟨h1,h2⟩:=hs
   refine⟨by omega,by omega⟩
  ·intro n i s hi hs
   obtain⟨h1,h2⟩:=hs
   have b:=hb i hi
   show ff bad k_ 6 (hmL f) (n+1) s (i:Int)=_
   rw[IP]
   have hl:i<(hmL f).length:=hi
   have w1:w64 ((i:Int)+1)=(i:Int)+1:=d8 (by omega) (by omega)
   have w2:w64 (s+(rI (nth (hmL f) i) 0) % 8)=s+(rI (nth (hmL f) i) 0) % 8:=d8 (by omega) (by omega)
   have hd:decide ((i:Int)<len (hmL f))=true:=ch hl
   simp only[xI,hd,bw hl,eI hl,Int.toNat_natCast,arJ,w1,w2,ah,ao,cond_true]
  ·intro n s hs
   show ff bad k_ 6 (hmL f) (n+1) s ((5:Nat):Int)=_
   rw[IP]
   rfl
 refine key.trans ?_
 rw[abB]
 exact congrArg k_ (Int.tmod_eq_emod_of_nonneg (abA f))
def vM {α:Type} (bad:α) (k_:Int→α) (x:Rows) (bl:Int) (ea:Int) (gx:Int) (d5:Int) (jL:Int) (jM:Int) (bZ:Int→α) (bz:Int):α:=
 bif decide (bz<bl) then
  bif ak true (idx bz x) then
   bif bif (rI (nth x (Int.toNat bz)) 0)==1 then bif (rI (nth x (Int.toNat bz)) 1)==ea then bif (rI (nth x (Int.toNat bz)) 2)==gx then bif (rI (nth x (Int.toNat bz)) 3)==d5 then bif (rI (nth x (Int.toNat bz)) 4)==jL then bif (rI (nth x (Int.toNat bz)) 5)==jM then true else false else false else false else false else false else false then k_ bz
   else bZ (w64 (bz+1))
  else bad
 else k_ (-1)
def na {α:Type} (bad:α) (k_:Int→α) (N:Nat) (x:Rows) (bl:Int) (ea:Int) (gx:Int) (d5:Int) (jL:Int) (jM:Int) (m_:Nat):Int→α:=
 Nat.rec (motive:=fun _=>Int→α) (fun _=>bad) (fun _ bZ=>vM bad k_ x bl ea gx d5 jL jM bZ) m_
theorem Mf {α:Type} (bad:α) (k_:Int→α) (N:Nat) (x:Rows) (bl:Int) (ea:Int) (gx:Int) (d5:Int) (jL:Int) (jM:Int) (m_:Nat) (bz:Int):na bad k_ N x bl ea gx d5 jL jM (m_+1) bz=vM bad k_ x bl ea gx d5 jL jM (na bad k_ N x bl ea gx d5 jL jM m_) bz:=rfl
def EP {α:Type} (bad:α) (k_:Int→α) (l0:Rows→Int→Int→Int→Int→Int→Int→Int→α) (t:ag) (f:bh):α:=
 l0 t.aL (len t.aL) f.Kind f.eb f.fb f.dt f.du 0
def EO {α:Type} (bad:α) (k_:Int→α) (N:Nat) (t:ag) (f:bh):α:=EP bad k_ (fun x bl ea gx d5 jL jM=>na bad k_ N x bl ea gx d5 jL jM N) t f
def qR (r:List DC) (f:bh):Bool:=bif (rI r 0)==1 then bif (rI r 1)==f.Kind then bif (rI r 2)==f.eb then bif (rI r 3)==f.fb then bif (rI r 4)==f.dt then bif (rI r 5)==f.du then true else false else false else false else false else false else false
def Tq (t:ag) (f:bh):Int:=findIdx (fun _ r=>qR r f) t.aL 0
theorem ajt {α:Type} (bad:α) (k_:Int→α) (t:ag) (f:bh) (h_t:WtL ag.ct t.enc) (Nb:WtL bh.ct f.enc):∃N,EO bad k_ N t f=k_ (Tq t f):=by
 obtain⟨hl,_⟩:=cU (ag.IQ h_t)
 refine⟨t.aL.length+1, ?_⟩
 unfold EO EP Tq
 have key:na bad k_ (t.aL.length+1) t.aL (len t.aL) f.Kind f.eb f.fb f.dt f.du (t.aL.length+1) 0=k_ (findIdx (fun _ r=>qR r f) t.aL 0):=by
  refine (dQ t.aL (na bad k_ (t.aL.length+1) t.aL (len t.aL) f.Kind f.eb f.fb f.dt f.du) (fun i r c=>bif qR r f then k_ (i:Int) else c) (k_ (-1)) ?_ ?_).trans ?_
  ·intro n i h
   rw[Mf]
   simp only[vM,ch h,bw h,bu h hl,Int.toNat_natCast,ah,ao,cond_true]
   rfl
  ·intro n
   rw[Mf]
   simp only[vM,aQ,cond_false]
  ·exact UE (fun _ r=>qR r f) k_ t.aL 0
 exact key
def zI {α:Type} (bad:α) (k_:Int→α) (fj:Rows) (ea:Int) (gx:Int) (d5:Int) (jL:Int) (jM:Int) (bZ:Int→α) (k:Int):α:=
 let z0:Int:=Int.tmod (w64 ((dY (⟨ea,gx,d5,jL,jM⟩:bh))+k)) 8
 let z1:Bool:=idx z0 fj
 let z2:Bool:=ak true z1
 let z3:List DC:=nth fj (Int.toNat z0)
 let z4:Int:=rI z3 0
 let z5:Bool:=z4==1
 bif decide (k<8) then
  bif z2 then
   bif z4==0 then k_ (-1)
   else bif RF z5 (ak z2 z1) z2 then
     bif bif z5 then bif (rI z3 1)==ea then bif (rI z3 2)==gx then bif (rI z3 3)==d5 then bif (rI z3 4)==jL then bif (rI z3 5)==jM then true else false else false else false else false else false else false then k_ z0
     else bZ (w64 (k+1))
    else bad
  else bad
 else k_ (-1)
def fI {α:Type} (bad:α) (k_:Int→α) (N:Nat) (fj:Rows) (ea:Int) (gx:Int) (d5:Int) (jL:Int) (jM:Int) (m_:Nat):Int→α:=
 Nat.rec (motive:=fun _=>Int→α) (fun _=>bad) (fun _ bZ=>zI bad k_ fj ea gx d5 jL jM bZ) m_
theorem Kg {α:Type} (bad:α) (k_:Int→α) (N:Nat) (fj:Rows) (ea:Int) (gx:Int) (d5:Int) (jL:Int) (jM:Int) (m_:Nat) (k:Int):fI bad k_ N fj ea gx d5 jL jM (m_+1) k=zI bad k_ fj ea gx d5 jL jM (fI bad k_ N fj ea gx d5 jL jM m_) k:=rfl
def BB {α:Type} (bad:α) (k_:Int→α) (l0:Rows→Int→Int→Int→Int→Int→Int→α) (t:ag) (f:bh):α:=
 l0 t.aL f.Kind f.eb f.fb f.dt f.du 0
def BA {α:Type} (bad:α) (k_:Int→α) (N:Nat) (t:ag) (f:bh):α:=BB bad k_ (fun fj ea gx d5 jL jM=>fI bad k_ N fj ea gx d5 jL jM N) t f
def aoK (t:ag) (_:bh):Bool:=decide (t.aL.length=8)
def al9 (t:Rows) (h:Int) (f:bh):Nat→Nat→Int
 | 0,_=> -1
 | m+1,k=>bif (rI (nth t (Int.toNat ((h+(k:Int)) % 8))) 0)==0 then -1 else bif qR (nth t (Int.toNat ((h+(k:Int)) % 8))) f then (h+(k:Int)) % 8 else al9 t h f m (k+1)
def MG (t:ag) (f:bh):Int:=al9 t.aL (dY f) f 8 0
theorem apQ {α:Type} (k_:Int→α) (t:Rows) (h:Int) (f:bh):∀(m i:Nat),abz (σ:=Unit) (fun k c s=>bif (rI (nth t (Int.toNat ((h+(k:Int)) % 8))) 0)==0 then k_ (-1) else bif qR (nth t (Int.toNat ((h+(k:Int)) % 8))) f then k_ ((h+(k:Int)) % 8) else c s) (fun _=>k_ (-1)) m i ()=k_ (al9 t h f m i)
 | 0,_=>rfl
 | m+1,i=>by
  simp only[abz,al9]
  cases (rI (nth t (Int.toNat ((h+(i:Int)) % 8))) 0)==0
  ·cases qR (nth t (Int.toNat ((h+(i:Int)) % 8))) f
   ·exact apQ k_ t h f m (i+1)
   ·rfl
  ·rfl
theorem afT {α:Type} (bad:α) (k_:Int→α) (t:ag) (f:bh) (h_t:WtL ag.ct t.enc) (Nb:WtL bh.ct f.enc) (hok:aoK t f=true):∃N,BA bad k_ N t f=k_ (MG t f):=by
 have h8:t.aL.length=8:=of_decide_eq_true hok
 have hh:=MT f
 refine⟨9, ?_⟩
 unfold BA BB MG
 have key:fI bad k_ 9 t.aL f.Kind f.eb f.fb f.dt f.du 9 0=k_ (al9 t.aL (dY f) f 8 0):=by
  refine (Xv (σ:=Unit) 8 (fun n k _=>fI bad k_ 9 t.aL f.Kind f.eb f.fb f.dt f.du n k) (fun k c s=>bif (rI (nth t.aL (Int.toNat ((dY f+(k:Int)) % 8))) 0)==0 then k_ (-1) else bif qR (nth t.aL (Int.toNat ((dY f+(k:Int)) % 8))) f then k_ ((dY f+(k:Int)) % 8) else c s) (fun _=>k_ (-1)) ?_ ?_ 9 () (by omega)).trans (apQ k_ t.aL (dY f) f 8 0)
  ·intro n i s hi
   show fI bad k_ 9 t.aL f.Kind f.eb f.fb f.dt f.du (n+1) (i:Int)=_
   rw[Kg]
   have hd:decide ((i:Int)<8)=true:=decide_eq_true (by omega)
   have w1:w64 ((i:Int)+1)=(i:Int)+1:=d8 (by omega) (by omega)
   have hz:Int.tmod (w64 (dY f+(i:Int))) 8=(dY f+(i:Int)) % 8:=by
    rw[d8 (by omega) (by omega)]
    exact Int.tmod_eq_emod_of_nonneg (by omega)
   have hx:idx ((dY f+(i:Int)) % 8) t.aL=true:=by
    simp only[idx,Bool.and_eq_true,decide_eq_true_eq,h8]
    omega
   have hf:(⟨f.Kind,f.eb,f.fb,f.dt,f.du⟩:bh)=f:=rfl
   unfold zI
   simp only[hf,hd,hz,hx,w1,ah,ao,Ey,cond_true]
   rfl
  ·intro n s
   show fI bad k_ 9 t.aL f.Kind f.eb f.fb f.dt f.du (n+1) ((8:Nat):Int)=_
   rw[Kg]
   rfl
 exact key
def ER {α:Type} (bad:α) (k_:Rows→α) (ea:Int) (gx:Int) (d5:Int) (jL:Int) (jM:Int) (bZ:Int→Rows→α) (i:Int) (az:Rows):α:=
 bif decide (i<8) then
  bif ak true (room2 8 az ([[.int (Int.tmod (w64 ((dY (⟨ea,gx,d5,jL,jM⟩:bh))+i)) 8)]])) then
   bZ (w64 (i+1)) (az++([[.int (Int.tmod (w64 ((dY (⟨ea,gx,d5,jL,jM⟩:bh))+i)) 8)]]))
  else bad
 else k_ az
def jk {α:Type} (bad:α) (k_:Rows→α) (N:Nat) (ea:Int) (gx:Int) (d5:Int) (jL:Int) (jM:Int) (m_:Nat):Int→Rows→α:=
 Nat.rec (motive:=fun _=>Int→Rows→α) (fun _ _=>bad) (fun _ bZ=>ER bad k_ ea gx d5 jL jM bZ) m_
theorem Oj {α:Type} (bad:α) (k_:Rows→α) (N:Nat) (ea:Int) (gx:Int) (d5:Int) (jL:Int) (jM:Int) (m_:Nat) (i:Int) (az:Rows):jk bad k_ N ea gx d5 jL jM (m_+1) i az=ER bad k_ ea gx d5 jL jM (jk bad k_ N ea gx d5 jL jM m_) i az:=rfl
def Hv {α:Type} (bad:α) (k_:Rows→α) (l0:Int→Int→Int→Int→Int→Int→Rows→α) (f:bh):α:=
 l0 f.Kind f.eb f.fb f.dt f.du 0 []
def Hu {α:Type} (bad:α) (k_:Rows→α) (N:Nat) (f:bh):α:=Hv bad k_ (fun ea gx d5 jL jM=>jk bad k_ N ea gx d5 jL jM N) f
def aq4 (h:Int) (i:Nat) (o:Rows):Rows:=o++[[.int ((h+(i:Int)) % 8)]]
def GY (f:bh):Rows:=itN (aq4 (dY f)) 8 0 []
theorem al0 {α:Type} (bad:α) (k_:Rows→α) (f:bh) (Nb:WtL bh.ct f.enc):∃N,Hu bad k_ N f=k_ (GY f):=by
 have hh:=MT f
 refine⟨9, ?_⟩
 unfold Hu Hv GY
 have key:jk bad k_ 9 f.Kind f.eb f.fb f.dt f.du 9 0 []=k_ (itN (aq4 (dY f)) 8 0 []):=by
  refine IJ 8 (fun n i o=>jk bad k_ 9 f.Kind f.eb f.fb f.dt f.du n i o) (aq4 (dY f)) k_ (fun i o=>o.length=i) ?_ ?_ ?_ 9 [] rfl (by omega)
  ·intro i o hi ho
   simp only[aq4,List.length_append,List.length_cons,List.length_nil,ho]
  ·intro n i o hi ho
   show jk bad k_ 9 f.Kind f.eb f.fb f.dt f.du (n+1) (i:Int) o=_
   rw[Oj]
   have hd:decide ((i:Int)<8)=true:=decide_eq_true (by omega)
   have w1:w64 ((i:Int)+1)=(i:Int)+1:=d8 (by omega) (by omega)
   have hz:Int.tmod (w64 (dY f+(i:Int))) 8=(dY f+(i:Int)) % 8:=by
    rw[d8 (by omega) (by omega)]
    exact Int.tmod_eq_emod_of_nonneg (by omega)
   have hf:(⟨f.Kind,f.eb,f.fb,f.dt,f.du⟩:bh)=f:=rfl
   have hr:room2 8 o [[.int ((dY f+(i:Int)) % 8)]]=true:=Du (by simp only[List.length_cons,List.length_nil];omega) (by omega)
   unfold ER
   simp only[hf,hd,hz,hr,w1,ah,ao,cond_true]
   rfl
  ·intro n o ho
   show jk bad k_ 9 f.Kind f.eb f.fb f.dt f.du (n+1) ((8:Nat):Int) o=_
   rw[Oj]
   rfl
 exact key
end
end Go.Proofs.YthpmalpdnnbkgaaGreat.Pl
