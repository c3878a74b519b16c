/- What functions of the program compute, in plain Lean, as the value machine runs them. Conditions: none. -/
import Derived.Test.YthpmalpdnnbkgaaGreatPSx
import Derived.Test.YthpmalpdnnbkgaaGreatPBa
set_option linter.unusedVariables false
set_option linter.unusedSimpArgs false
set_option maxRecDepth 100000
namespace Go.Proofs.YthpmalpdnnbkgaaGreat.Pl
open Vm
noncomputable section
def lQ {α:Type} (bad:α) (k_:Int→α) (domain:Int) (dz:Int) (af:Rows) (bl:Int) (bZ:Int→α) (bz:Int):α:=
 bif decide (bz<bl) then
  bif ak true (idx bz af) then
   bif bif (rI (nth af (Int.toNat bz)) 0)==domain then (rI (nth af (Int.toNat bz)) 1)==dz else false then k_ bz
   else bZ (w64 (bz+1))
  else bad
 else k_ (-1)
def ia {α:Type} (bad:α) (k_:Int→α) (N:Nat) (domain:Int) (dz:Int) (af:Rows) (bl:Int) (m_:Nat):Int→α:=
 Nat.rec (motive:=fun _=>Int→α) (fun _=>bad) (fun _ bZ=>lQ bad k_ domain dz af bl bZ) m_
theorem DZ {α:Type} (bad:α) (k_:Int→α) (N:Nat) (domain:Int) (dz:Int) (af:Rows) (bl:Int) (m_:Nat) (bz:Int):ia bad k_ N domain dz af bl (m_+1) bz=lQ bad k_ domain dz af bl (ia bad k_ N domain dz af bl m_) bz:=rfl
def tP {α:Type} (bad:α) (k_:Int→α) (l0:Int→Int→α) (af:Rows) (domain:Int) (dz:Int):α:=
 l0 (len af) 0
def tO {α:Type} (bad:α) (k_:Int→α) (N:Nat) (af:Rows) (domain:Int) (dz:Int):α:=tP bad k_ (fun bl=>ia bad k_ N domain dz af bl N) af domain dz
def wI (af:Rows) (domain:Int) (dz:Int):Int:=findIdx (fun _ r=>bif (rI r 0)==domain then (rI r 1)==dz else false) af 0
theorem Uo {α:Type} (bad:α) (k_:Int→α) (af:Rows) (domain:Int) (dz:Int) (dZ:WtC (.sl [.int .i64,.int .i64,.int .i64,.bool]) (.sl af)) (amM:WtC (.int .i64) (.int domain)) (alo:WtC (.int .i64) (.int dz)):∃N,tO bad k_ N af domain dz=k_ (wI af domain dz):=by
 obtain⟨hl,_⟩:=cU dZ
 refine⟨af.length+1, ?_⟩
 unfold tO tP
 refine (dQ af (ia bad k_ (af.length+1) domain dz af (len af)) (fun i r c=>bif bif (rI r 0)==domain then (rI r 1)==dz else false then k_ (i:Int) else c) (k_ (-1)) ?_ ?_).trans ?_
 ·intro n i h
  rw[DZ]
  simp only[lQ,ch h,bw h,bu h hl,Int.toNat_natCast,ah,ao,cond_true]
 ·intro n
  rw[DZ]
  simp only[lQ,aQ,cond_false]
 ·exact UE (fun i r=>bif (rI r 0)==domain then (rI r 1)==dz else false) k_ af 0
def nZ {α:Type} (bad:α) (k_:Bool→α) (af:Rows) (x:Rows) (bl:Int) (bZ:Int→α) (bz:Int):α:=
 bif decide (bz<bl) then
  bif ak true (idx bz x) then
   bif bif !(aA (rI (nth x (Int.toNat bz)) 0) 0 7) then true else bif !(aA (rI (nth x (Int.toNat bz)) 1) 0 1023) then true else bif !(aA (rI (nth x (Int.toNat bz)) 2) 0 63) then true else (wI af (rI (nth x (Int.toNat bz)) 0) (rI (nth x (Int.toNat bz)) 1)) != bz then k_ false
   else bZ (w64 (bz+1))
  else bad
 else k_ (decide (len af≤96))
def jg {α:Type} (bad:α) (k_:Bool→α) (N:Nat) (af:Rows) (x:Rows) (bl:Int) (m_:Nat):Int→α:=
 Nat.rec (motive:=fun _=>Int→α) (fun _=>bad) (fun _ bZ=>nZ bad k_ af x bl bZ) m_
theorem FV {α:Type} (bad:α) (k_:Bool→α) (N:Nat) (af:Rows) (x:Rows) (bl:Int) (m_:Nat) (bz:Int):jg bad k_ N af x bl (m_+1) bz=nZ bad k_ af x bl (jg bad k_ N af x bl m_) bz:=rfl
def vF {α:Type} (bad:α) (k_:Bool→α) (l0:Rows→Int→Int→α) (af:Rows):α:=
 l0 af (len af) 0
def vE {α:Type} (bad:α) (k_:Bool→α) (N:Nat) (af:Rows):α:=vF bad k_ (fun x bl=>jg bad k_ N af x bl N) af
def Ja (r:List DC):Bool:=bif !(aA (rI r 0) 0 7) then true else bif !(aA (rI r 1) 0 1023) then true else !(aA (rI r 2) 0 63)
def eU (af:Rows):Bool:=bif decide (96<len af) then false else bif lA (fun i r=>bif Ja r then true else A9 (fun j=>bif (rI (nth af j) 0)==(rI r 0) then (rI (nth af j) 1)==(rI r 1) else false) i 0) af 0 then false else true
theorem Xq {α:Type} (bad:α) (k_:Bool→α) (af:Rows) (dZ:WtC (.sl [.int .i64,.int .i64,.int .i64,.bool]) (.sl af)):∃N,vE bad k_ N af=k_ (eU af):=by
 obtain⟨hl,_⟩:=cU dZ
 refine⟨af.length+1, ?_⟩
 unfold vE vF
 refine (dQ af (jg bad k_ (af.length+1) af af (len af)) (fun i r c=>bif (bif Ja r then true else (wI af (rI r 0) (rI r 1)) != (i:Int)) then k_ false else c) (k_ (decide (len af≤96))) ?_ ?_).trans ?_
 ·intro n i h
  rw[FV]
  simp only[nZ,ch h,bw h,bu h hl,Int.toNat_natCast,ah,ao,cond_true]
  unfold Ja
  cases aA (rI (nth af i) 0) 0 7<;>cases aA (rI (nth af i) 1) 0 1023<;>cases aA (rI (nth af i) 2) 0 63<;>rfl
 ·intro n
  rw[FV]
  simp only[nZ,aQ,cond_false]
 ·refine (yB (fun i r=>bif Ja r then true else (wI af (rI r 0) (rI r 1)) != (i:Int)) _ _ af 0).trans ?_
  have e:lA (fun i r=>bif Ja r then true else (wI af (rI r 0) (rI r 1)) != (i:Int)) af 0=lA (fun i r=>bif Ja r then true else A9 (fun j=>bif (rI (nth af j) 0)==(rI r 0) then (rI (nth af j) 1)==(rI r 1) else false) i 0) af 0:=by
   apply Xw
   intro i hi
   rw[Nat.zero_add]
   have hf:=UF (fun _ r=>bif (rI r 0)==(rI (nth af i) 0) then (rI r 1)==(rI (nth af i) 1) else false) af 0 i hi (by simp)
   rw[Nat.zero_add] at hf
   have hf:((wI af (rI (nth af i) 0) (rI (nth af i) 1)) != (i:Int))=_:=hf
   rw[hf]
  rw[e]
  unfold eU
  by_cases h9:96<len af
  ·simp only[decide_eq_true h9,cond_true,show decide (len af≤96)=false from decide_eq_false (by omega)]
   cases lA (fun i r=>bif Ja r then true else A9 (fun j=>bif (rI (nth af j) 0)==(rI r 0) then (rI (nth af j) 1)==(rI r 1) else false) i 0) af 0<;>rfl
  ·simp only[decide_eq_false h9,cond_false,show decide (len af≤96)=true from decide_eq_true (by omega)]
   exact cT rfl rfl
def n9 {α:Type} (bad:α) (k_:Bool→α) (l1:Int→Int→Int→Int→α) (af:Rows) (bZ:Int→α) (k:Int):α:=
 bif decide (k<len af) then
  bif ak true (idx k af) then
   bif bif !(aA (rI (nth af (Int.toNat k)) 0) 0 7) then true else bif !(aA (rI (nth af (Int.toNat k)) 1) 0 1023) then true else !(aA (rI (nth af (Int.toNat k)) 2) 0 63) then k_ false
   else l1 k (rI (nth af (Int.toNat k)) 0) (rI (nth af (Int.toNat k)) 1) 0
  else bad
 else k_ true
def n8 {α:Type} (bad:α) (k_:Bool→α) (bZ:Int→α) (af:Rows) (k:Int) (x:Int) (bl:Int) (ih1:Int→α) (i:Int):α:=
 let z0:Bool:=(rI (nth af (Int.toNat i)) 0)==x
 bif decide (i<k) then
  bif RF z0 (ak (ak true (idx i af)) (idx i af)) (ak true (idx i af)) then
   bif bif z0 then (rI (nth af (Int.toNat i)) 1)==bl else false then k_ false
   else ih1 (w64 (i+1))
  else bad
 else bZ (w64 (k+1))
def ek {α:Type} (bad:α) (k_:Bool→α) (N:Nat) (bZ:Int→α) (af:Rows) (k:Int) (x:Int) (bl:Int) (m_:Nat):Int→α:=
 Nat.rec (motive:=fun _=>Int→α) (fun _=>bad) (fun _ ih1=>n8 bad k_ bZ af k x bl ih1) m_
theorem FW {α:Type} (bad:α) (k_:Bool→α) (N:Nat) (bZ:Int→α) (af:Rows) (k:Int) (x:Int) (bl:Int) (m_:Nat) (i:Int):ek bad k_ N bZ af k x bl (m_+1) i=n8 bad k_ bZ af k x bl (ek bad k_ N bZ af k x bl m_) i:=rfl
def fX {α:Type} (bad:α) (k_:Bool→α) (N:Nat) (af:Rows) (m_:Nat):Int→α:=
 Nat.rec (motive:=fun _=>Int→α) (fun _=>bad) (fun _ bZ=>n9 bad k_ (fun k x bl=>ek bad k_ N bZ af k x bl N) af bZ) m_
theorem FX {α:Type} (bad:α) (k_:Bool→α) (N:Nat) (af:Rows) (m_:Nat) (k:Int):fX bad k_ N af (m_+1) k=n9 bad k_ (fun k x bl=>ek bad k_ N (fX bad k_ N af m_) af k x bl N) af (fX bad k_ N af m_) k:=rfl
def vH {α:Type} (bad:α) (k_:Bool→α) (l0:Int→α) (af:Rows):α:=
 bif decide (96<len af) then k_ false
 else l0 0
def vG {α:Type} (bad:α) (k_:Bool→α) (N:Nat) (af:Rows):α:=vH bad k_ (fX bad k_ N af N) af
theorem Xu {α:Type} (bad:α) (k_:Bool→α) (af:Rows) (dZ:WtC (.sl [.int .i64,.int .i64,.int .i64,.bool]) (.sl af)):∃N,vG bad k_ N af=k_ (eU af):=by
 obtain⟨hl,_⟩:=cU dZ
 refine⟨af.length+1, ?_⟩
 unfold vG vH eU
 refine cT rfl ?_
 have inner:∀(ih:Int→α) (i:Nat),i<af.length→ek bad k_ (af.length+1) ih af (i:Int) (rI (nth af i) 0) (rI (nth af i) 1) (af.length+1) 0=bif A9 (fun j=>bif (rI (nth af j) 0)==(rI (nth af i) 0) then (rI (nth af j) 1)==(rI (nth af i) 1) else false) i 0 then k_ false else ih ((i:Int)+1):=by
  intro ih i hi
  have hw:w64 ((i:Int)+1)=(i:Int)+1:=bu hi hl
  have:=Xv (σ:=Unit) i (fun n j _=>ek bad k_ (af.length+1) ih af (i:Int) (rI (nth af i) 0) (rI (nth af i) 1) n j) (fun j c s=>bif (bif (rI (nth af j) 0)==(rI (nth af i) 0) then (rI (nth af j) 1)==(rI (nth af i) 1) else false) then k_ false else c s) (fun _=>ih ((i:Int)+1)) ?_ ?_ (af.length+1) () (by omega)
  ·exact this.trans (afA (fun j=>bif (rI (nth af j) 0)==(rI (nth af i) 0) then (rI (nth af j) 1)==(rI (nth af i) 1) else false) (k_ false) (ih ((i:Int)+1)) i 0)
  ·intro n j _ hj
   show ek bad k_ (af.length+1) ih af (i:Int) (rI (nth af i) 0) (rI (nth af i) 1) (n+1) (j:Int)=_
   rw[FW]
   have h1:decide ((j:Int)<(i:Int))=true:=decide_eq_true (by omega)
   have h2:idx (j:Int) af=true:=bw (by omega)
   have h3:w64 ((j:Int)+1)=(j:Int)+1:=d8 (by omega) (by omega)
   simp only[n8,h1,h2,h3,Int.toNat_natCast,ah,ao,Ey,cond_true]
  ·intro n _
   show ek bad k_ (af.length+1) ih af (i:Int) (rI (nth af i) 0) (rI (nth af i) 1) (n+1) (i:Int)=_
   rw[FW]
   have h1:decide ((i:Int)<(i:Int))=false:=decide_eq_false (by omega)
   simp only[n8,h1,hw,cond_false]
 refine (tQ af (fX bad k_ (af.length+1) af) (fun i r c=>bif (bif Ja r then true else A9 (fun j=>bif (rI (nth af j) 0)==(rI r 0) then (rI (nth af j) 1)==(rI r 1) else false) i 0) then k_ false else c) (k_ true) ?_ ?_ (af.length+1) (by omega)).trans ?_
 ·intro n i h
  rw[FX]
  simp only[n9,ch h,bw h,Int.toNat_natCast,ah,ao,cond_true,Ey,inner _ i h]
  show (bif Ja (nth af i) then k_ false else _)=_
  cases Ja (nth af i)<;>rfl
 ·intro n
  rw[FX]
  simp only[n9,aQ,cond_false]
 ·refine (yB (fun i r=>bif Ja r then true else A9 (fun j=>bif (rI (nth af j) 0)==(rI r 0) then (rI (nth af j) 1)==(rI r 1) else false) i 0) _ _ af 0).trans ?_
  exact cT rfl rfl
end
end Go.Proofs.YthpmalpdnnbkgaaGreat.Pl
