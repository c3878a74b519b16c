/- What functions of the program compute, in plain Lean, as the value machine runs them. Conditions: none. -/
import Derived.Test.YthpmalpdnnbkgaaGreatPFb
set_option linter.unusedVariables false
set_option linter.unusedSimpArgs false
set_option maxRecDepth 100000
namespace Go.Proofs.YthpmalpdnnbkgaaGreat.Pl
open Vm
noncomputable section
def rL {α:Type} (bad:α) (k_:Bool→α) (ar:Int) (x:Rows) (bl:Int) (bZ:Int→α) (bz:Int):α:=
 bif decide (bz<bl) then
  bif ak true (idx bz x) then
   bif !(aA (rI (nth x (Int.toNat bz)) 0) 0 (w64 (ar - 1))) then k_ false
   else bZ (w64 (bz+1))
  else bad
 else k_ true
def iA {α:Type} (bad:α) (k_:Bool→α) (N:Nat) (ar:Int) (x:Rows) (bl:Int) (m_:Nat):Int→α:=
 Nat.rec (motive:=fun _=>Int→α) (fun _=>bad) (fun _ bZ=>rL bad k_ ar x bl bZ) m_
theorem IV {α:Type} (bad:α) (k_:Bool→α) (N:Nat) (ar:Int) (x:Rows) (bl:Int) (m_:Nat) (bz:Int):iA bad k_ N ar x bl (m_+1) bz=rL bad k_ ar x bl (iA bad k_ N ar x bl m_) bz:=rfl
def zM {α:Type} (bad:α) (k_:Bool→α) (l0:Rows→Int→Int→α) (s:aM) (ar:Int):α:=
 bif bif !(aA ar 1 4) then true else bif (len s.Key) != 16 then true else !(Eo (len s.Table)) then k_ false
 else l0 s.Table (len s.Table) 0
def zL {α:Type} (bad:α) (k_:Bool→α) (N:Nat) (s:aM) (ar:Int):α:=zM bad k_ (fun x bl=>iA bad k_ N ar x bl N) s ar
def ud (s:aM) (ar:Int):Bool:=bif bif !(aA ar 1 4) then true else bif (len s.Key) != 16 then true else !(Eo (len s.Table)) then false
 else s.Table.all (fun r=>aA (rI r 0) 0 (w64 (ar - 1)))
theorem acq {α:Type} (bad:α) (k_:Bool→α) (s:aM) (ar:Int) (h_s:WtL aM.ct s.enc) (vR:WtC (.int .i64) (.int ar)):∃N,zL bad k_ N s ar=k_ (ud s ar):=by
 obtain⟨hl,_⟩:=cU (aM.IW h_s)
 refine⟨s.Table.length+1, ?_⟩
 unfold zL zM ud
 refine II (fun _=>rfl) (fun _=> ?_)
 have key:iA bad k_ (s.Table.length+1) ar s.Table (len s.Table) (s.Table.length+1) 0=bif s.Table.all (fun r=>aA (rI r 0) 0 (w64 (ar - 1))) then k_ true else k_ false:=by
  refine (dQ s.Table (iA bad k_ (s.Table.length+1) ar s.Table (len s.Table)) (fun i r c=>bif !(aA (rI r 0) 0 (w64 (ar - 1))) then k_ false else c) (k_ true) ?_ ?_).trans (Ft (fun r=>aA (rI r 0) 0 (w64 (ar - 1))) (k_ false) (k_ true) s.Table 0)
  ·intro n i h
   rw[IV]
   simp only[rL,ch h,bw h,bu h hl,Int.toNat_natCast,ah,ao,cond_true]
  ·intro n
   rw[IV]
   simp only[rL,aQ,cond_false]
 refine key.trans ?_
 cases s.Table.all (fun r=>aA (rI r 0) 0 (w64 (ar - 1)))<;>rfl
def rM {α:Type} (bad:α) (k_:Bool→α) (ar:Int) (eu:Rows) (bZ:Int→α) (k:Int):α:=
 bif decide (k<len eu) then
  bif ak true (idx k eu) then
   bif !(aA (rI (nth eu (Int.toNat k)) 0) 0 (w64 (ar - 1))) then k_ false
   else bZ (w64 (k+1))
  else bad
 else k_ true
def iB {α:Type} (bad:α) (k_:Bool→α) (N:Nat) (ar:Int) (eu:Rows) (m_:Nat):Int→α:=
 Nat.rec (motive:=fun _=>Int→α) (fun _=>bad) (fun _ bZ=>rM bad k_ ar eu bZ) m_
theorem IX {α:Type} (bad:α) (k_:Bool→α) (N:Nat) (ar:Int) (eu:Rows) (m_:Nat) (k:Int):iB bad k_ N ar eu (m_+1) k=rM bad k_ ar eu (iB bad k_ N ar eu m_) k:=rfl
def zQ {α:Type} (bad:α) (k_:Bool→α) (l0:Rows→Int→α) (s:aM) (ar:Int):α:=
 bif bif !(aA ar 1 4) then true else bif (len s.Key) != 16 then true else !(Eo (len s.Table)) then k_ false
 else l0 s.Table 0
def zP {α:Type} (bad:α) (k_:Bool→α) (N:Nat) (s:aM) (ar:Int):α:=zQ bad k_ (fun eu=>iB bad k_ N ar eu N) s ar
theorem acv {α:Type} (bad:α) (k_:Bool→α) (s:aM) (ar:Int) (h_s:WtL aM.ct s.enc) (vR:WtC (.int .i64) (.int ar)):∃N,zP bad k_ N s ar=k_ (ud s ar):=by
 obtain⟨hl,_⟩:=cU (aM.IW h_s)
 refine⟨s.Table.length+1, ?_⟩
 unfold zP zQ ud
 refine II (fun _=>rfl) (fun _=> ?_)
 have key:iB bad k_ (s.Table.length+1) ar s.Table (s.Table.length+1) 0=bif s.Table.all (fun r=>aA (rI r 0) 0 (w64 (ar - 1))) then k_ true else k_ false:=by
  refine (dQ s.Table (iB bad k_ (s.Table.length+1) ar s.Table) (fun i r c=>bif !(aA (rI r 0) 0 (w64 (ar - 1))) then k_ false else c) (k_ true) ?_ ?_).trans (Ft (fun r=>aA (rI r 0) 0 (w64 (ar - 1))) (k_ false) (k_ true) s.Table 0)
  ·intro n i h
   rw[IX]
   simp only[rM,ch h,bw h,bu h hl,Int.toNat_natCast,ah,ao,cond_true]
  ·intro n
   rw[IX]
   simp only[rM,aQ,cond_false]
 refine key.trans ?_
 cases s.Table.all (fun r=>aA (rI r 0) 0 (w64 (ar - 1)))<;>rfl
def ni {α:Type} (bad:α) (k_:Bool→α) (l1:Int→Int→α) (ar:Int) (x:Rows) (bl:Int) (eu:Rows) (bZ:Int→α) (bz:Int):α:=
 bif decide (bz<bl) then
  bif ak true (idx bz x) then
   bif bif (rI (nth x (Int.toNat bz)) 7)==0 then decide (ar≤rI (nth x (Int.toNat bz)) 8) else false then k_ false
   else bZ (w64 (bz+1))
  else bad
 else l1 (len eu) 0
def nh {α:Type} (bad:α) (k_:Bool→α) (ar:Int) (eu:Rows) (D5:Int) (ih1:Int→α) (Hw:Int):α:=
 bif decide (Hw<D5) then
  bif ak true (idx Hw eu) then
   bif bif (rI (nth eu (Int.toNat Hw)) 0)==1 then decide (ar≤rI (nth eu (Int.toNat Hw)) 6) else false then k_ false
   else ih1 (w64 (Hw+1))
  else bad
 else k_ true
def fP {α:Type} (bad:α) (k_:Bool→α) (N:Nat) (ar:Int) (eu:Rows) (D5:Int) (m_:Nat):Int→α:=
 Nat.rec (motive:=fun _=>Int→α) (fun _=>bad) (fun _ ih1=>nh bad k_ ar eu D5 ih1) m_
theorem FL {α:Type} (bad:α) (k_:Bool→α) (N:Nat) (ar:Int) (eu:Rows) (D5:Int) (m_:Nat) (Hw:Int):fP bad k_ N ar eu D5 (m_+1) Hw=nh bad k_ ar eu D5 (fP bad k_ N ar eu D5 m_) Hw:=rfl
def fQ {α:Type} (bad:α) (k_:Bool→α) (N:Nat) (ar:Int) (x:Rows) (bl:Int) (eu:Rows) (m_:Nat):Int→α:=
 Nat.rec (motive:=fun _=>Int→α) (fun _=>bad) (fun _ bZ=>ni bad k_ (fun D5=>fP bad k_ N ar eu D5 N) ar x bl eu bZ) m_
theorem FM {α:Type} (bad:α) (k_:Bool→α) (N:Nat) (ar:Int) (x:Rows) (bl:Int) (eu:Rows) (m_:Nat) (bz:Int):fQ bad k_ N ar x bl eu (m_+1) bz=ni bad k_ (fun D5=>fP bad k_ N ar eu D5 N) ar x bl eu (fQ bad k_ N ar x bl eu m_) bz:=rfl
def vd {α:Type} (bad:α) (k_:Bool→α) (l0:Rows→Int→Rows→Int→α) (s:al) (ar:Int):α:=
 bif bif !(Fi s.bW) then true else bif !(vb s.Table) then true else !(ud s.bj ar) then k_ false
 else l0 s.bW (len s.bW) s.Table.aL 0
def vc {α:Type} (bad:α) (k_:Bool→α) (N:Nat) (s:al) (ar:Int):α:=vd bad k_ (fun x bl eu=>fQ bad k_ N ar x bl eu N) s ar
def eS (s:al) (ar:Int):Bool:=bif bif !(Fi s.bW) then true else bif !(vb s.Table) then true else !(ud s.bj ar) then false
 else bif s.bW.all (fun r=> !(decide (ar≤rI r 8))) then s.Table.aL.all (fun r=> !(decide (ar≤rI r 6))) else false
theorem UK {p q:List DC→Bool} :∀ {l:Rows},(∀r∈l,p r=q r)→l.all p=l.all q
 | [],_=>rfl
 | r::rs,h=>by
  simp only[List.all_cons]
  rw[h r (by simp),UK (fun x hx=>h x (by simp [hx]))]
theorem am8 {r:List DC} (h:A4 (cZ.ae r 0)=true) (h7:rI r 7≠0):rI r 8=0:=by
 unfold A4 Fh at h
 simp only[id] at h
 have e7:((cZ.ae r 0).Action==0)=false:=by
  show (rI r 7==0)=false
  simpa using h7
 rw[e7] at h
 simp only[cond_false] at h
 by_cases h1:rI r 8=0
 ·exact h1
 ·have e8:((cZ.ae r 0).Queue==0)=false:=by
   show (rI r 8==0)=false
   simpa using h1
  rw[e8] at h
  revert h
  cases (cZ.ae r 0).Action==1<;>simp
theorem al_ {t:ag} (h:vb t=true) {r:List DC} (hr:r∈t.aL) (h0:rI r 0≠1):rI r 6=0:=by
 unfold vb at h
 cases h1:(len t.aL) != 8
 ·rw[h1,cond_false] at h
  cases h2:lA (UJ t.aL) t.aL 0
  ·obtain⟨i,hi,rfl⟩:=List.getElem_of_mem hr
   have:=MW h2 i hi
   rw[Nat.zero_add] at this
   have hn:nth t.aL i=t.aL[i]:=by simp [nth,List.getD_eq_getElem?_getD,hi]
   rw[hn] at this
   unfold UJ at this
   have e1:((rI t.aL[i] 0) != 1)=true:=by simpa using h0
   rw[e1] at this
   by_cases h6:rI t.aL[i] 6=0
   ·exact h6
   ·have e6:((rI t.aL[i] 6) != 0)=true:=by simpa using h6
    rw[e6] at this
    revert this
    cases PG t.aL[i]<;>cases als t.aL[i]<;>simp
  ·rw[h2] at h;cases h
 ·rw[h1] at h;cases h
theorem aa0 {s:al} {ar:Int} (hg:(bif !(Fi s.bW) then true else bif !(vb s.Table) then true else !(ud s.bj ar))=false):
  (∀r∈s.bW,A4 (cZ.ae r 0)=true)∧vb s.Table=true∧1≤ar:=by
 cases h1:Fi s.bW
 ·rw[h1] at hg;cases hg
 cases h2:vb s.Table
 ·rw[h1,h2] at hg;cases hg
 cases h3:ud s.bj ar
 ·rw[h1,h2,h3] at hg;cases hg
 refine⟨?_,rfl, ?_⟩
 ·unfold Fi at h1
  cases h4:s.bW.all (fun r=>A4 (cZ.ae r 0))
  ·rw[h4] at h1;cases h1
  ·exact fun r hr=>by simpa using List.all_eq_true.1 h4 r hr
 ·unfold ud at h3
  cases h4:aA ar 1 4
  ·rw[h4] at h3;cases h3
  ·exact (qA.1 h4).1
theorem Vw {α:Type} (bad:α) (k_:Bool→α) (s:al) (ar:Int) (h_s:WtL al.ct s.enc) (vR:WtC (.int .i64) (.int ar)):∃N,vc bad k_ N s ar=k_ (eS s ar):=by
 obtain⟨hl,_⟩:=cU (al.aiB h_s)
 obtain⟨S0,_⟩:=cU (ag.IQ (al.IW h_s))
 refine⟨s.bW.length+s.Table.aL.length+1, ?_⟩
 unfold vc vd eS
 refine II (fun _=>rfl) (fun hg=> ?_)
 have an1:fP bad k_ (s.bW.length+s.Table.aL.length+1) ar s.Table.aL (len s.Table.aL) (s.bW.length+s.Table.aL.length+1) 0=bif s.Table.aL.all (fun r=> !(bif (rI r 0)==1 then decide (ar≤rI r 6) else false)) then k_ true else k_ false:=by
  refine (tQ s.Table.aL (fP bad k_ (s.bW.length+s.Table.aL.length+1) ar s.Table.aL (len s.Table.aL)) (fun i r c=>bif !(!(bif (rI r 0)==1 then decide (ar≤rI r 6) else false)) then k_ false else c) (k_ true) ?_ ?_ (s.bW.length+s.Table.aL.length+1) (by omega)).trans (Ft (fun r=> !(bif (rI r 0)==1 then decide (ar≤rI r 6) else false)) (k_ false) (k_ true) s.Table.aL 0)
  ·intro n i h
   rw[FL]
   simp only[nh,ch h,bw h,bu h S0,Int.toNat_natCast,ah,ao,cond_true,Bool.not_not]
  ·intro n
   rw[FL]
   simp only[nh,aQ,cond_false]
 have key:fQ bad k_ (s.bW.length+s.Table.aL.length+1) ar s.bW (len s.bW) s.Table.aL (s.bW.length+s.Table.aL.length+1) 0=bif s.bW.all (fun r=> !(bif (rI r 7)==0 then decide (ar≤rI r 8) else false)) then (bif s.Table.aL.all (fun r=> !(bif (rI r 0)==1 then decide (ar≤rI r 6) else false)) then k_ true else k_ false) else k_ false:=by
  refine (tQ s.bW (fQ bad k_ (s.bW.length+s.Table.aL.length+1) ar s.bW (len s.bW) s.Table.aL) (fun i r c=>bif !(!(bif (rI r 7)==0 then decide (ar≤rI r 8) else false)) then k_ false else c) (bif s.Table.aL.all (fun r=> !(bif (rI r 0)==1 then decide (ar≤rI r 6) else false)) then k_ true else k_ false) ?_ ?_ (s.bW.length+s.Table.aL.length+1) (by omega)).trans (Ft (fun r=> !(bif (rI r 7)==0 then decide (ar≤rI r 8) else false)) (k_ false) _ s.bW 0)
  ·intro n i h
   rw[FM]
   simp only[ni,ch h,bw h,bu h hl,Int.toNat_natCast,ah,ao,cond_true,Bool.not_not]
  ·intro n
   rw[FM]
   simp only[ni,aQ,cond_false]
   exact an1
 refine key.trans ?_
 obtain⟨g1,g2,g3⟩:=aa0 hg
 rw[UK (l:=s.bW) (q:=fun r=> !(decide (ar≤rI r 8))) (fun r hr=>by
  by_cases h7:rI r 7=0
  ·have e:((rI r 7)==0)=true:=by simpa using h7
   rw[e,cond_true]
  ·have e:((rI r 7)==0)=false:=by simpa using h7
   rw[e,cond_false,am8 (g1 r hr) h7,decide_eq_false (by omega)])]
 rw[UK (l:=s.Table.aL) (q:=fun r=> !(decide (ar≤rI r 6))) (fun r hr=>by
  by_cases h7:rI r 0=1
  ·have e:((rI r 0)==1)=true:=by simpa using h7
   rw[e,cond_true]
  ·have e:((rI r 0)==1)=false:=by simpa using h7
   rw[e,cond_false,al_ g2 hr h7,decide_eq_false (by omega)])]
 cases s.bW.all (fun r=> !(decide (ar≤rI r 8)))
 ·rfl
 ·cases s.Table.aL.all (fun r=> !(decide (ar≤rI r 6)))<;>rfl
def nn {α:Type} (bad:α) (k_:Bool→α) (l1:Int→α) (ar:Int) (qD:Rows) (eu:Rows) (bZ:Int→α) (k:Int):α:=
 bif decide (k<len qD) then
  bif ak true (idx k qD) then
   bif decide (ar≤rI (nth qD (Int.toNat k)) 8) then k_ false
   else bZ (w64 (k+1))
  else bad
 else l1 0
def nm {α:Type} (bad:α) (k_:Bool→α) (ar:Int) (eu:Rows) (ih1:Int→α) (aW:Int):α:=
 bif decide (aW<len eu) then
  bif ak true (idx aW eu) then
   bif decide (ar≤rI (nth eu (Int.toNat aW)) 6) then k_ false
   else ih1 (w64 (aW+1))
  else bad
 else k_ true
def fR {α:Type} (bad:α) (k_:Bool→α) (N:Nat) (ar:Int) (eu:Rows) (m_:Nat):Int→α:=
 Nat.rec (motive:=fun _=>Int→α) (fun _=>bad) (fun _ ih1=>nm bad k_ ar eu ih1) m_
theorem FN {α:Type} (bad:α) (k_:Bool→α) (N:Nat) (ar:Int) (eu:Rows) (m_:Nat) (aW:Int):fR bad k_ N ar eu (m_+1) aW=nm bad k_ ar eu (fR bad k_ N ar eu m_) aW:=rfl
def fS {α:Type} (bad:α) (k_:Bool→α) (N:Nat) (ar:Int) (qD:Rows) (eu:Rows) (m_:Nat):Int→α:=
 Nat.rec (motive:=fun _=>Int→α) (fun _=>bad) (fun _ bZ=>nn bad k_ (fR bad k_ N ar eu N) ar qD eu bZ) m_
theorem FO {α:Type} (bad:α) (k_:Bool→α) (N:Nat) (ar:Int) (qD:Rows) (eu:Rows) (m_:Nat) (k:Int):fS bad k_ N ar qD eu (m_+1) k=nn bad k_ (fR bad k_ N ar eu N) ar qD eu (fS bad k_ N ar qD eu m_) k:=rfl
def vf {α:Type} (bad:α) (k_:Bool→α) (l0:Rows→Rows→Int→α) (s:al) (ar:Int):α:=
 bif bif !(Fi s.bW) then true else bif !(vb s.Table) then true else !(ud s.bj ar) then k_ false
 else l0 s.bW s.Table.aL 0
def ve {α:Type} (bad:α) (k_:Bool→α) (N:Nat) (s:al) (ar:Int):α:=vf bad k_ (fun qD eu=>fS bad k_ N ar qD eu N) s ar
theorem VA {α:Type} (bad:α) (k_:Bool→α) (s:al) (ar:Int) (h_s:WtL al.ct s.enc) (vR:WtC (.int .i64) (.int ar)):∃N,ve bad k_ N s ar=k_ (eS s ar):=by
 obtain⟨hl,_⟩:=cU (al.aiB h_s)
 obtain⟨S0,_⟩:=cU (ag.IQ (al.IW h_s))
 refine⟨s.bW.length+s.Table.aL.length+1, ?_⟩
 unfold ve vf eS
 refine II (fun _=>rfl) (fun hg=> ?_)
 have an1:fR bad k_ (s.bW.length+s.Table.aL.length+1) ar s.Table.aL (s.bW.length+s.Table.aL.length+1) 0=bif s.Table.aL.all (fun r=> !(decide (ar≤rI r 6))) then k_ true else k_ false:=by
  refine (tQ s.Table.aL (fR bad k_ (s.bW.length+s.Table.aL.length+1) ar s.Table.aL) (fun i r c=>bif !(!(decide (ar≤rI r 6))) then k_ false else c) (k_ true) ?_ ?_ (s.bW.length+s.Table.aL.length+1) (by omega)).trans (Ft (fun r=> !(decide (ar≤rI r 6))) (k_ false) (k_ true) s.Table.aL 0)
  ·intro n i h
   rw[FN]
   simp only[nm,ch h,bw h,bu h S0,Int.toNat_natCast,ah,ao,cond_true,Bool.not_not]
  ·intro n
   rw[FN]
   simp only[nm,aQ,cond_false]
 have key:fS bad k_ (s.bW.length+s.Table.aL.length+1) ar s.bW s.Table.aL (s.bW.length+s.Table.aL.length+1) 0=bif s.bW.all (fun r=> !(decide (ar≤rI r 8))) then (bif s.Table.aL.all (fun r=> !(decide (ar≤rI r 6))) then k_ true else k_ false) else k_ false:=by
  refine (tQ s.bW (fS bad k_ (s.bW.length+s.Table.aL.length+1) ar s.bW s.Table.aL) (fun i r c=>bif !(!(decide (ar≤rI r 8))) then k_ false else c) (bif s.Table.aL.all (fun r=> !(decide (ar≤rI r 6))) then k_ true else k_ false) ?_ ?_ (s.bW.length+s.Table.aL.length+1) (by omega)).trans (Ft (fun r=> !(decide (ar≤rI r 8))) (k_ false) _ s.bW 0)
  ·intro n i h
   rw[FO]
   simp only[nn,ch h,bw h,bu h hl,Int.toNat_natCast,ah,ao,cond_true,Bool.not_not]
  ·intro n
   rw[FO]
   simp only[nn,aQ,cond_false]
   exact an1
 refine key.trans ?_
 cases s.bW.all (fun r=> !(decide (ar≤rI r 8)))
 ·rfl
 ·cases s.Table.aL.all (fun r=> !(decide (ar≤rI r 6)))<;>rfl
end
end Go.Proofs.YthpmalpdnnbkgaaGreat.Pl
