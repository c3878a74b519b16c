/- What functions of the program compute, in plain Lean, as the value machine runs them. Conditions: none. -/
import Derived.Test.YthpmalpdnnbkgaaGreatPFc
import Derived.Test.YthpmalpdnnbkgaaGreatPMo
set_option linter.unusedVariables false
set_option linter.unusedSimpArgs false
set_option maxRecDepth 100000
namespace Go.Proofs.YthpmalpdnnbkgaaGreat.Pl
open Vm
noncomputable section
def v8 {α:Type} (bad:α) (k_:Bool→α) (l1:Int→Rows→Int→α) (n:Int) (x:Int) (cX:Rows) (cn:Rows) (bI:Rows) (bQ:Rows) (bR:Rows) (bU:Bytes) (bS:Rows) (c_:Int) (da:Int) (db:Int) (dc:Int) (dd:Int) (bZ:Int→α) (bl:Int):α:=
 let z0:Bool:= !(RE (aS.ae (nth cX (Int.toNat bl)) 0))
 let z1:Bool:= !(fY (aJ.ae (nth cn (Int.toNat bl)) 0))
 let z2:Bool:=ak (ak true (idx bl cX)) (idx bl cn)
 bif decide (bl<x) then
  bif RF z0 (ak true (idx bl cX)) (RF z1 z2 (ak z2 (idx bl bI))) then
   bif bif z0 then true else bif z1 then true else !(il (aC.ae (nth bI (Int.toNat bl)) 0)) then k_ false
   else bZ (w64 (bl+1))
  else bad
 else l1 5 ([[.int c_],[.int da],[.int db],[.int dc],[.int dd]]) 0
def BS {α:Type} (bad:α) (k_:Bool→α) (n:Int) (bz:Int) (bQ:Rows) (bR:Rows) (bU:Bytes) (bS:Rows) (D5:Rows) (ih1:Int→α) (U9:Int):α:=
 bif decide (U9<bz) then
  bif ak (ak true (idx U9 D5)) (inl (Int.toNat U9) D5) then
   bif !(aA (rI (nth D5 (Int.toNat U9)) 0) 0 1000000000000) then k_ false
   else ih1 (w64 (U9+1))
  else bad
 else k_ (eS (⟨bQ,(⟨bR⟩:ag),(⟨bU,bS⟩:aM)⟩:al) n)
def nB {α:Type} (bad:α) (k_:Bool→α) (N:Nat) (n:Int) (bz:Int) (bQ:Rows) (bR:Rows) (bU:Bytes) (bS:Rows) (D5:Rows) (m_:Nat):Int→α:=
 Nat.rec (motive:=fun _=>Int→α) (fun _=>bad) (fun _ ih1=>BS bad k_ n bz bQ bR bU bS D5 ih1) m_
theorem Mh {α:Type} (bad:α) (k_:Bool→α) (N:Nat) (n:Int) (bz:Int) (bQ:Rows) (bR:Rows) (bU:Bytes) (bS:Rows) (D5:Rows) (m_:Nat) (U9:Int):nB bad k_ N n bz bQ bR bU bS D5 (m_+1) U9=BS bad k_ n bz bQ bR bU bS D5 (nB bad k_ N n bz bQ bR bU bS D5 m_) U9:=rfl
def gB {α:Type} (bad:α) (k_:Bool→α) (N:Nat) (n:Int) (x:Int) (cX:Rows) (cn:Rows) (bI:Rows) (bQ:Rows) (bR:Rows) (bU:Bytes) (bS:Rows) (c_:Int) (da:Int) (db:Int) (dc:Int) (dd:Int) (m_:Nat):Int→α:=
 Nat.rec (motive:=fun _=>Int→α) (fun _=>bad) (fun _ bZ=>v8 bad k_ (fun bz D5=>nB bad k_ N n bz bQ bR bU bS D5 N) n x cX cn bI bQ bR bU bS c_ da db dc dd bZ) m_
theorem Mi {α:Type} (bad:α) (k_:Bool→α) (N:Nat) (n:Int) (x:Int) (cX:Rows) (cn:Rows) (bI:Rows) (bQ:Rows) (bR:Rows) (bU:Bytes) (bS:Rows) (c_:Int) (da:Int) (db:Int) (dc:Int) (dd:Int) (m_:Nat) (bl:Int):gB bad k_ N n x cX cn bI bQ bR bU bS c_ da db dc dd (m_+1) bl=v8 bad k_ (fun bz D5=>nB bad k_ N n bz bQ bR bU bS D5 N) n x cX cn bI bQ bR bU bS c_ da db dc dd (gB bad k_ N n x cX cn bI bQ bR bU bS c_ da db dc dd m_) bl:=rfl
def ET {α:Type} (bad:α) (k_:Bool→α) (l0:Int→Int→Rows→Rows→Rows→Rows→Rows→Bytes→Rows→Int→Int→Int→Int→Int→Int→α) (h:aB):α:=
 let z0:Bool:= !(aA (len h.Rx) 1 2)
 let z1:Bool:=(len h.bN) != (len h.Rx)
 let z2:Bool:=(len h.aY) != (len h.Rx)
 bif RF (!(jF h.bV)) true (RF (!(eU h.Maps)) true (RF (!(PD h.Tx)) (ak true (FG h.Tx)) (RF (!(m5 h.Filter)) (ak true (FG h.Tx)) (RF z0 (ak true (FG h.Tx)) (RF z1 (ak true (FG h.Tx)) (RF z2 (ak true (FG h.Tx)) (ak true (FG h.Tx)))))))) then
  bif bif !(jF h.bV) then true else bif !(eU h.Maps) then true else bif !(PD h.Tx) then true else bif !(m5 h.Filter) then true else bif z0 then true else bif z1 then true else bif z2 then true else (len h.cj) != (len h.Rx) then k_ false
  else l0 (len h.Rx) (len h.Rx) h.Rx h.bN h.aY h.aj.bW h.aj.Table.aL h.aj.bj.Key h.aj.bj.Table h.Counters.Frames h.Counters.KN h.Counters.di h.Counters.dE h.Counters.fC 0
 else bad
def ES {α:Type} (bad:α) (k_:Bool→α) (N:Nat) (h:aB):α:=ET bad k_ (fun n x cX cn bI bQ bR bU bS c_ da db dc dd=>gB bad k_ N n x cX cn bI bQ bR bU bS c_ da db dc dd N) h
def Gd (h:aB):Bool:=FG h.Tx
def sL (h:aB):Rows:=[[.int h.Counters.Frames],[.int h.Counters.KN],[.int h.Counters.di],[.int h.Counters.dE],[.int h.Counters.fC]]
def am9 (h:aB):Bool:=(bif !(jF h.bV) then true else bif !(eU h.Maps) then true else bif !(PD h.Tx) then true else bif !(m5 h.Filter) then true else bif !(aA (len h.Rx) 1 2) then true else bif (len h.bN) != (len h.Rx) then true else bif (len h.aY) != (len h.Rx) then true else (len h.cj) != (len h.Rx))
def AW (h:aB):Bool:=bif am9 h then false else bif eS h.aj (len h.Rx) then bif A9 (fun i=>bif !(RE (aS.ae (nth h.Rx i) 0)) then true else bif !(fY (aJ.ae (nth h.bN i) 0)) then true else !(il (aC.ae (nth h.aY i) 0))) h.Rx.length 0 then false else (sL h).all (fun r=>aA (rI r 0) 0 1000000000000) else false
theorem nine:∀a b c d e f g i j:Bool,(bif a then true else bif b then true else bif c then true else bif d then true else bif e then true else bif f then true else bif g then true else bif i then true else j)=(bif (bif a then true else bif b then true else bif c then true else bif d then true else bif e then true else bif f then true else bif g then true else i) then true else j):=by decide
theorem ajz {α:Type} (bad:α) (k_:Bool→α) (h:aB) (h_h:WtL aB.ct h.enc) (hok:Gd h=true):∃N,ES bad k_ N h=k_ (AW h):=by
 have hq:FG h.Tx=true:=hok
 refine⟨h.Rx.length+6, ?_⟩
 unfold ES ET AW
 simp only[hq,ah,ao,Ey,cond_true]
 refine II (fun _=>rfl) (fun hg=> ?_)
 have hn:h.Rx.length≤2∧len h.bN=len h.Rx∧len h.aY=len h.Rx:=by
  unfold am9 at hg
  cases h5:aA (len h.Rx) 1 2
  ·rw[h5] at hg
   revert hg
   cases jF h.bV<;>cases eU h.Maps<;>cases PD h.Tx<;>cases m5 h.Filter<;>simp
  ·have b:=(qA.1 h5).2
   by_cases e1:len h.bN=len h.Rx
   ·by_cases e2:len h.aY=len h.Rx
    ·exact⟨by simp only[len] at b;omega,e1,e2⟩
    ·have e2:((len h.aY) != (len h.Rx))=true:=by simpa using e2
     rw[e2] at hg
     revert hg
     cases jF h.bV<;>cases eU h.Maps<;>cases PD h.Tx<;>cases m5 h.Filter<;>cases aA (len h.Rx) 1 2<;>cases ((len h.bN) != (len h.Rx))<;>simp
   ·have e1:((len h.bN) != (len h.Rx))=true:=by simpa using e1
    rw[e1] at hg
    revert hg
    cases jF h.bV<;>cases eU h.Maps<;>cases PD h.Tx<;>cases m5 h.Filter<;>cases aA (len h.Rx) 1 2<;>simp
 obtain⟨hn,hp,hv⟩:=hn
 have hc5:(sL h).length=5:=rfl
 have an1:nB bad k_ (h.Rx.length+6) (len h.Rx) 5 h.aj.bW h.aj.Table.aL h.aj.bj.Key h.aj.bj.Table (sL h) (h.Rx.length+6) 0=bif (sL h).all (fun r=>aA (rI r 0) 0 1000000000000) then (k_ (eS h.aj (len h.Rx))) else k_ false:=by
  refine (tQ (sL h) (nB bad k_ (h.Rx.length+6) (len h.Rx) 5 h.aj.bW h.aj.Table.aL h.aj.bj.Key h.aj.bj.Table (sL h)) (fun i r c=>bif !(aA (rI r 0) 0 1000000000000) then k_ false else c) ((k_ (eS h.aj (len h.Rx)))) ?_ ?_ (h.Rx.length+6) (by omega)).trans (Ft (fun r=>aA (rI r 0) 0 1000000000000) (k_ false) ((k_ (eS h.aj (len h.Rx)))) (sL h) 0)
  ·intro n i hi
   rw[Mh]
   have w1:w64 ((i:Int)+1)=(i:Int)+1:=d8 (by omega) (by omega)
   have hd:decide ((i:Int)<5)=true:=decide_eq_true (by omega)
   simp only[BS,hd,bw hi,eI hi,w1,Int.toNat_natCast,ah,ao,cond_true]
  ·intro n
   rw[Mh]
   rfl
 have key:gB bad k_ (h.Rx.length+6) (len h.Rx) (len h.Rx) h.Rx h.bN h.aY h.aj.bW h.aj.Table.aL h.aj.bj.Key h.aj.bj.Table h.Counters.Frames h.Counters.KN h.Counters.di h.Counters.dE h.Counters.fC (h.Rx.length+6) 0=bif A9 (fun i=>bif !(RE (aS.ae (nth h.Rx i) 0)) then true else bif !(fY (aJ.ae (nth h.bN i) 0)) then true else !(il (aC.ae (nth h.aY i) 0))) h.Rx.length 0 then k_ false else (bif (sL h).all (fun r=>aA (rI r 0) 0 1000000000000) then (k_ (eS h.aj (len h.Rx))) else k_ false):=by
  refine (Xv (σ:=Unit) h.Rx.length (fun n i _=>gB bad k_ (h.Rx.length+6) (len h.Rx) (len h.Rx) h.Rx h.bN h.aY h.aj.bW h.aj.Table.aL h.aj.bj.Key h.aj.bj.Table h.Counters.Frames h.Counters.KN h.Counters.di h.Counters.dE h.Counters.fC n i) (fun i c s=>bif bif !(RE (aS.ae (nth h.Rx i) 0)) then true else bif !(fY (aJ.ae (nth h.bN i) 0)) then true else !(il (aC.ae (nth h.aY i) 0)) then k_ false else c s) (fun _=>bif (sL h).all (fun r=>aA (rI r 0) 0 1000000000000) then (k_ (eS h.aj (len h.Rx))) else k_ false) ?_ ?_ (h.Rx.length+6) () (by omega)).trans (afA (fun i=>bif !(RE (aS.ae (nth h.Rx i) 0)) then true else bif !(fY (aJ.ae (nth h.bN i) 0)) then true else !(il (aC.ae (nth h.aY i) 0))) (k_ false) _ h.Rx.length 0)
  ·intro n i s hi
   show gB bad k_ (h.Rx.length+6) (len h.Rx) (len h.Rx) h.Rx h.bN h.aY h.aj.bW h.aj.Table.aL h.aj.bj.Key h.aj.bj.Table h.Counters.Frames h.Counters.KN h.Counters.di h.Counters.dE h.Counters.fC (n+1) (i:Int)=_
   rw[Mi]
   have w1:w64 ((i:Int)+1)=(i:Int)+1:=d8 (by omega) (by omega)
   have p1:idx (i:Int) h.Rx=true:=bw hi
   have p2:idx (i:Int) h.bN=true:=bw (by simp only[len] at hp;omega)
   have p3:idx (i:Int) h.aY=true:=bw (by simp only[len] at hv;omega)
   have p0:decide ((i:Int)<len h.Rx)=true:=ch hi
   simp only[v8,p0,p1,p2,p3,w1,Int.toNat_natCast,ah,ao,Ey,cond_true]
  ·intro n s
   show gB bad k_ (h.Rx.length+6) (len h.Rx) (len h.Rx) h.Rx h.bN h.aY h.aj.bW h.aj.Table.aL h.aj.bj.Key h.aj.bj.Table h.Counters.Frames h.Counters.KN h.Counters.di h.Counters.dE h.Counters.fC (n+1) (h.Rx.length:Int)=_
   rw[Mi]
   have p0:decide ((h.Rx.length:Int)<len h.Rx)=false:=aQ h.Rx
   simp only[v8,p0,cond_false]
   exact an1
 refine key.trans ?_
 cases eS h.aj (len h.Rx)
 ·cases A9 (fun i=>bif !(RE (aS.ae (nth h.Rx i) 0)) then true else bif !(fY (aJ.ae (nth h.bN i) 0)) then true else !(il (aC.ae (nth h.aY i) 0))) h.Rx.length 0
  ·cases (sL h).all (fun r=>aA (rI r 0) 0 1000000000000)<;>rfl
  ·rfl
 ·cases A9 (fun i=>bif !(RE (aS.ae (nth h.Rx i) 0)) then true else bif !(fY (aJ.ae (nth h.bN i) 0)) then true else !(il (aC.ae (nth h.aY i) 0))) h.Rx.length 0
  ·cases (sL h).all (fun r=>aA (rI r 0) 0 1000000000000)<;>rfl
  ·rfl
def wc {α:Type} (bad:α) (k_:Bool→α) (l1:Rows→Int→α) (n:Int) (cX:Rows) (cn:Rows) (bI:Rows) (c_:Int) (da:Int) (db:Int) (dc:Int) (dd:Int) (bZ:Int→α) (k:Int):α:=
 let z0:Bool:= !(RE (aS.ae (nth cX (Int.toNat k)) 0))
 let z1:Bool:= !(fY (aJ.ae (nth cn (Int.toNat k)) 0))
 let z2:Bool:=ak (ak true (idx k cX)) (idx k cn)
 bif decide (k<n) then
  bif RF z0 (ak true (idx k cX)) (RF z1 z2 (ak z2 (idx k bI))) then
   bif bif z0 then true else bif z1 then true else !(il (aC.ae (nth bI (Int.toNat k)) 0)) then k_ false
   else bZ (w64 (k+1))
  else bad
 else l1 ([[.int c_],[.int da],[.int db],[.int dc],[.int dd]]) 0
def BT {α:Type} (bad:α) (k_:Bool→α) (af:Rows) (ih1:Int→α) (aW:Int):α:=
 bif decide (aW<len af) then
  bif ak (ak true (idx aW af)) (inl (Int.toNat aW) af) then
   bif !(aA (rI (nth af (Int.toNat aW)) 0) 0 1000000000000) then k_ false
   else ih1 (w64 (aW+1))
  else bad
 else k_ true
def nC {α:Type} (bad:α) (k_:Bool→α) (N:Nat) (af:Rows) (m_:Nat):Int→α:=
 Nat.rec (motive:=fun _=>Int→α) (fun _=>bad) (fun _ ih1=>BT bad k_ af ih1) m_
theorem Mj {α:Type} (bad:α) (k_:Bool→α) (N:Nat) (af:Rows) (m_:Nat) (aW:Int):nC bad k_ N af (m_+1) aW=BT bad k_ af (nC bad k_ N af m_) aW:=rfl
def gC {α:Type} (bad:α) (k_:Bool→α) (N:Nat) (n:Int) (cX:Rows) (cn:Rows) (bI:Rows) (c_:Int) (da:Int) (db:Int) (dc:Int) (dd:Int) (m_:Nat):Int→α:=
 Nat.rec (motive:=fun _=>Int→α) (fun _=>bad) (fun _ bZ=>wc bad k_ (fun af=>nC bad k_ N af N) n cX cn bI c_ da db dc dd bZ) m_
theorem Mk {α:Type} (bad:α) (k_:Bool→α) (N:Nat) (n:Int) (cX:Rows) (cn:Rows) (bI:Rows) (c_:Int) (da:Int) (db:Int) (dc:Int) (dd:Int) (m_:Nat) (k:Int):gC bad k_ N n cX cn bI c_ da db dc dd (m_+1) k=wc bad k_ (fun af=>nC bad k_ N af N) n cX cn bI c_ da db dc dd (gC bad k_ N n cX cn bI c_ da db dc dd m_) k:=rfl
def EV {α:Type} (bad:α) (k_:Bool→α) (l0:Int→Rows→Rows→Rows→Int→Int→Int→Int→Int→Int→α) (h:aB):α:=
 let z0:Bool:= !(aA (len h.Rx) 1 2)
 let z1:Bool:=(len h.bN) != (len h.Rx)
 let z2:Bool:=(len h.aY) != (len h.Rx)
 let z3:Bool:=(len h.cj) != (len h.Rx)
 bif RF (!(jF h.bV)) true (RF (!(eU h.Maps)) true (RF (!(PD h.Tx)) (ak true (FG h.Tx)) (RF (!(m5 h.Filter)) (ak true (FG h.Tx)) (RF z0 (ak true (FG h.Tx)) (RF z1 (ak true (FG h.Tx)) (RF z2 (ak true (FG h.Tx)) (RF z3 (ak true (FG h.Tx)) (ak true (FG h.Tx))))))))) then
  bif bif !(jF h.bV) then true else bif !(eU h.Maps) then true else bif !(PD h.Tx) then true else bif !(m5 h.Filter) then true else bif z0 then true else bif z1 then true else bif z2 then true else bif z3 then true else !(eS h.aj (len h.Rx)) then k_ false
  else l0 (len h.Rx) h.Rx h.bN h.aY h.Counters.Frames h.Counters.KN h.Counters.di h.Counters.dE h.Counters.fC 0
 else bad
def EU {α:Type} (bad:α) (k_:Bool→α) (N:Nat) (h:aB):α:=EV bad k_ (fun n cX cn bI c_ da db dc dd=>gC bad k_ N n cX cn bI c_ da db dc dd N) h
theorem ajD {α:Type} (bad:α) (k_:Bool→α) (h:aB) (h_h:WtL aB.ct h.enc) (hok:Gd h=true):∃N,EU bad k_ N h=k_ (AW h):=by
 have hq:FG h.Tx=true:=hok
 refine⟨h.Rx.length+6, ?_⟩
 unfold EU EV AW
 simp only[hq,ah,ao,Ey,cond_true]
 rw[nine]
 show (bif (bif am9 h then true else !(eS h.aj (len h.Rx))) then k_ false else _)=_
 rcases Bool.eq_false_or_eq_true (am9 h) with hg | hg
 ·rw[hg];rfl
 rcases Bool.eq_false_or_eq_true (eS h.aj (len h.Rx)) with hs | hs
 case inr=>
  rw[hg,hs];rfl
 simp only[hg,hs,Bool.not_true,cond_false,cond_true]
 have hn:h.Rx.length≤2∧len h.bN=len h.Rx∧len h.aY=len h.Rx:=by
  unfold am9 at hg
  cases h5:aA (len h.Rx) 1 2
  ·rw[h5] at hg
   revert hg
   cases jF h.bV<;>cases eU h.Maps<;>cases PD h.Tx<;>cases m5 h.Filter<;>simp
  ·have b:=(qA.1 h5).2
   by_cases e1:len h.bN=len h.Rx
   ·by_cases e2:len h.aY=len h.Rx
    ·exact⟨by simp only[len] at b;omega,e1,e2⟩
    ·have e2:((len h.aY) != (len h.Rx))=true:=by simpa using e2
     rw[e2] at hg
     revert hg
     cases jF h.bV<;>cases eU h.Maps<;>cases PD h.Tx<;>cases m5 h.Filter<;>cases aA (len h.Rx) 1 2<;>cases ((len h.bN) != (len h.Rx))<;>simp
   ·have e1:((len h.bN) != (len h.Rx))=true:=by simpa using e1
    rw[e1] at hg
    revert hg
    cases jF h.bV<;>cases eU h.Maps<;>cases PD h.Tx<;>cases m5 h.Filter<;>cases aA (len h.Rx) 1 2<;>simp
 obtain⟨hn,hp,hv⟩:=hn
 have hc5:(sL h).length=5:=rfl
 have an1:nC bad k_ (h.Rx.length+6) (sL h) (h.Rx.length+6) 0=bif (sL h).all (fun r=>aA (rI r 0) 0 1000000000000) then (k_ true) else k_ false:=by
  refine (tQ (sL h) (nC bad k_ (h.Rx.length+6) (sL h)) (fun i r c=>bif !(aA (rI r 0) 0 1000000000000) then k_ false else c) ((k_ true)) ?_ ?_ (h.Rx.length+6) (by omega)).trans (Ft (fun r=>aA (rI r 0) 0 1000000000000) (k_ false) ((k_ true)) (sL h) 0)
  ·intro n i hi
   rw[Mj]
   have w1:w64 ((i:Int)+1)=(i:Int)+1:=d8 (by omega) (by omega)
   simp only[BT,ch hi,bw hi,eI hi,w1,Int.toNat_natCast,ah,ao,cond_true]
  ·intro n
   rw[Mj]
   rfl
 have key:gC bad k_ (h.Rx.length+6) (len h.Rx) h.Rx h.bN h.aY h.Counters.Frames h.Counters.KN h.Counters.di h.Counters.dE h.Counters.fC (h.Rx.length+6) 0=bif A9 (fun i=>bif !(RE (aS.ae (nth h.Rx i) 0)) then true else bif !(fY (aJ.ae (nth h.bN i) 0)) then true else !(il (aC.ae (nth h.aY i) 0))) h.Rx.length 0 then k_ false else (bif (sL h).all (fun r=>aA (rI r 0) 0 1000000000000) then (k_ true) else k_ false):=by
  refine (Xv (σ:=Unit) h.Rx.length (fun n i _=>gC bad k_ (h.Rx.length+6) (len h.Rx) h.Rx h.bN h.aY h.Counters.Frames h.Counters.KN h.Counters.di h.Counters.dE h.Counters.fC n i) (fun i c s=>bif bif !(RE (aS.ae (nth h.Rx i) 0)) then true else bif !(fY (aJ.ae (nth h.bN i) 0)) then true else !(il (aC.ae (nth h.aY i) 0)) then k_ false else c s) (fun _=>bif (sL h).all (fun r=>aA (rI r 0) 0 1000000000000) then (k_ true) else k_ false) ?_ ?_ (h.Rx.length+6) () (by omega)).trans (afA (fun i=>bif !(RE (aS.ae (nth h.Rx i) 0)) then true else bif !(fY (aJ.ae (nth h.bN i) 0)) then true else !(il (aC.ae (nth h.aY i) 0))) (k_ false) _ h.Rx.length 0)
  ·intro n i s hi
   show gC bad k_ (h.Rx.length+6) (len h.Rx) h.Rx h.bN h.aY h.Counters.Frames h.Counters.KN h.Counters.di h.Counters.dE h.Counters.fC (n+1) (i:Int)=_
   rw[Mk]
   have w1:w64 ((i:Int)+1)=(i:Int)+1:=d8 (by omega) (by omega)
   have p1:idx (i:Int) h.Rx=true:=bw hi
   have p2:idx (i:Int) h.bN=true:=bw (by simp only[len] at hp;omega)
   have p3:idx (i:Int) h.aY=true:=bw (by simp only[len] at hv;omega)
   have p0:decide ((i:Int)<len h.Rx)=true:=ch hi
   simp only[wc,p0,p1,p2,p3,w1,Int.toNat_natCast,ah,ao,Ey,cond_true]
  ·intro n s
   show gC bad k_ (h.Rx.length+6) (len h.Rx) h.Rx h.bN h.aY h.Counters.Frames h.Counters.KN h.Counters.di h.Counters.dE h.Counters.fC (n+1) (h.Rx.length:Int)=_
   rw[Mk]
   have p0:decide ((h.Rx.length:Int)<len h.Rx)=false:=aQ h.Rx
   simp only[wc,p0,cond_false]
   exact an1
 refine key.trans ?_
 cases A9 (fun i=>bif !(RE (aS.ae (nth h.Rx i) 0)) then true else bif !(fY (aJ.ae (nth h.bN i) 0)) then true else !(il (aC.ae (nth h.aY i) 0))) h.Rx.length 0
 ·cases (sL h).all (fun r=>aA (rI r 0) 0 1000000000000)<;>rfl
 ·rfl
end
end Go.Proofs.YthpmalpdnnbkgaaGreat.Pl
