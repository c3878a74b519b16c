/- What functions of the program compute, in plain Lean, as the value machine runs them. Conditions: none. -/
import Derived.Test.YthpmalpdnnbkgaaGreatPRg
set_option linter.unusedVariables false
set_option linter.unusedSimpArgs false
set_option maxRecDepth 100000
namespace Go.Proofs.YthpmalpdnnbkgaaGreat.Pl
open Vm
noncomputable section
def Dn {α:Type} (bad:α) (k_:Bool→α) (x:Rows) (bl:Int) (yG:Int) (yH:Int) (yI:Int) (yJ:Rows) (bZ:Int→Int→Rows→α) (left:Int) (bz:Int) (all:Rows):α:=
 bif decide (bz<bl) then
  bif ak true (idx bz x) then
   bif bif decide (rI (nth x (Int.toNat bz)) 1<1) then true else bif decide (left<rI (nth x (Int.toNat bz)) 1) then true else !(aA (rI (nth x (Int.toNat bz)) 0) 0 65535) then k_ false
   else bif ak true (room2 8 all (rR (nth x (Int.toNat bz)) 2)) then
     bZ (w64 (left - (rI (nth x (Int.toNat bz)) 1))) (w64 (bz+1)) (all++(rR (nth x (Int.toNat bz)) 2))
    else bad
  else bad
 else bif ak true (G8 (⟨yG,yH,yI,yJ⟩:aJ) all) then
   k_ ((dJ (⟨yG,yH,yI,yJ⟩:aJ) all).2)
  else bad
def lS {α:Type} (bad:α) (k_:Bool→α) (N:Nat) (x:Rows) (bl:Int) (yG:Int) (yH:Int) (yI:Int) (yJ:Rows) (m_:Nat):Int→Int→Rows→α:=
 Nat.rec (motive:=fun _=>Int→Int→Rows→α) (fun _ _ _=>bad) (fun _ bZ=>Dn bad k_ x bl yG yH yI yJ bZ) m_
theorem PH {α:Type} (bad:α) (k_:Bool→α) (N:Nat) (x:Rows) (bl:Int) (yG:Int) (yH:Int) (yI:Int) (yJ:Rows) (m_:Nat) (left:Int) (bz:Int) (all:Rows):lS bad k_ N x bl yG yH yI yJ (m_+1) left bz all=Dn bad k_ x bl yG yH yI yJ (lS bad k_ N x bl yG yH yI yJ m_) left bz all:=rfl
def Ka {α:Type} (bad:α) (k_:Bool→α) (l0:Rows→Int→Int→Int→Int→Rows→Int→Int→Rows→α) (q:au):α:=
 bif bif !(Er q.Ring) then true else bif !(fY q.a_) then true else !(aA q.Next 0 65535) then k_ false
 else l0 q.aG (len q.aG) q.a_.cP q.a_.bB q.a_.Count q.a_.dn q.Ring.bB 0 []
def J_ {α:Type} (bad:α) (k_:Bool→α) (N:Nat) (q:au):α:=Ka bad k_ (fun x bl yG yH yI yJ=>lS bad k_ N x bl yG yH yI yJ N) q
theorem abC {r:cf} (h:Er r=true):2≤r.bB∧r.bB≤16:=by
 have hs:jG r.bB=true:=by
  cases hs:jG r.bB
  ·unfold Er Ff at h
   rw[hs] at h
   revert h
   cases aA r.cP 0 130944<;>simp
  ·rfl
 rcases Jb hs with h | h | h | h<;>omega
def aiC:Rows→Nat
 | []=>0
 | r::rs=>(rR r 2).length+aiC rs
def Fu:Rows→Rows
 | []=>[]
 | r::rs=>rR r 2++Fu rs
def FY:Rows→Int
 | []=>0
 | r::rs=>rI r 1+FY rs
def FG (q:au):Bool:=sm q.a_.dn && (sm q.aG && decide (aiC q.aG≤16777216))
theorem aoU {q:au} (h:FG q=true):sm q.a_.dn=true∧q.aG.length≤16777216∧aiC q.aG≤16777216:=by
 simp only[FG,Bool.and_eq_true,decide_eq_true_eq] at h
 exact⟨h.1,qU h.2.1,h.2.2⟩
def sN (n:Int) (r:List DC):Bool:=bif aA (rI r 1) 1 n then aA (rI r 0) 0 65535 else false
def PD (q:au):Bool:=bif bif !(Er q.Ring) then true else bif !(fY q.a_) then true else !(aA q.Next 0 65535) then false
 else bif q.aG.all (sN q.Ring.bB) then bif (dJ q.a_ (Fu q.aG)).2 then decide (FY q.aG≤q.Ring.bB) else false else false
theorem drop_cons {l:Rows} {i:Nat} (h:i<l.length):l.drop i=nth l i::l.drop (i+1):=by
 rw[List.drop_eq_getElem_cons h]
 simp [nth,List.getD_eq_getElem?_getD,h]
theorem Qs {l:Rows} {i:Nat} (h:i<l.length):aiC (l.drop i)=(rR (nth l i) 2).length+aiC (l.drop (i+1)):=by
 rw[drop_cons h]
 rfl
def txP (n:Int) (r:List DC) (_:Int×Rows):Bool:= !(sN n r)
def txF (r:List DC) (s:Int×Rows):Int×Rows:=(s.1+rI r 1,s.2++rR r 2)
def txQ (r:List DC) (s:Int×Rows):Bool:=bif decide (rI r 1<1) then true else bif decide (s.1<rI r 1) then true else !(aA (rI r 0) 0 65535)
def txG (r:List DC) (s:Int×Rows):Int×Rows:=(s.1 - rI r 1,s.2++rR r 2)
theorem apT {α:Type} (n:Int) (x:α) (fin:Int×Rows→α):∀(l:Rows) (s:Int×Rows),Hq (txP n) txF x fin l s=bif l.all (sN n) then fin (s.1+FY l,s.2++Fu l) else x
 | [],s=>by simp [Hq,FY,Fu]
 | r::rs,s=>by
  simp only[Hq,txP,List.all_cons]
  cases hs:sN n r
  ·rfl
  ·rw[apT n x fin rs]
   simp only[Bool.not_true,cond_false,Bool.true_and,txF,FY,Fu,Int.add_assoc,List.append_assoc]
theorem EB {n:Int} {r:List DC} :sN n r=true↔(1≤rI r 1∧rI r 1≤n)∧aA (rI r 0) 0 65535=true:=by
 unfold sN
 cases h:aA (rI r 1) 1 n
 ·constructor
  ·intro h;cases h
  ·intro h'
   have:aA (rI r 1) 1 n=true:=qA.2 h'.1
   rw[h] at this
   cases this
 ·have:=qA.1 h
  simp only[cond_true]
  exact⟨fun h'=>⟨this,h'⟩,fun h'=>h'.2⟩
theorem XI {n:Int} :∀ {l:Rows},l.all (sN n)=true→0≤FY l
 | [],_=>by simp [FY]
 | r::rs,h=>by
  simp only[List.all_cons,Bool.and_eq_true] at h
  have:=XI h.2
  have:=(EB.1 h.1).1
  simp only[FY]
  omega
theorem aoV {α:Type} (n:Int) (x:α) (fin:Rows→α):∀(l:Rows) (s:Int×Rows),s.1≤n→0≤s.1→Hq txQ txG x (fun s=>fin s.2) l s=bif l.all (sN n) then bif decide (FY l≤s.1) then fin (s.2++Fu l) else x else x
 | [],s,h1,h2=>by
  have:decide (FY []≤s.1)=true:=decide_eq_true h2
  simp only[Hq,List.all_nil,cond_true,Fu,List.append_nil,this]
 | r::rs,s,h1,h2=>by
  simp only[Hq,List.all_cons]
  by_cases a1:rI r 1<1
  ·have e:sN n r=false:=by
    cases hs:sN n r
    ·rfl
    ·have:=(EB.1 hs).1;omega
   rw[e]
   simp only[txQ,decide_eq_true a1,cond_true,Bool.false_and,cond_false]
  ·cases hb:aA (rI r 0) 0 65535
   ·have e:sN n r=false:=by
     cases hs:sN n r
     ·rfl
     ·have:=(EB.1 hs).2;rw[hb] at this;cases this
    rw[e]
    have:txQ r s=true:=by
     simp only[txQ,decide_eq_false a1,hb,cond_false,Bool.not_false]
     cases decide (s.1<rI r 1)<;>rfl
    rw[this]
    rfl
   ·by_cases a2:s.1<rI r 1
    ·have:txQ r s=true:=by simp only[txQ,decide_eq_false a1,decide_eq_true a2,cond_false,cond_true]
     rw[this,cond_true]
     cases hr:(sN n r && rs.all (sN n))
     ·rfl
     ·simp only[Bool.and_eq_true] at hr
      have:=XI hr.2
      rw[cond_true,decide_eq_false (by simp only[FY];omega)]
      rfl
    ·have:txQ r s=false:=by simp only[txQ,decide_eq_false a1,decide_eq_false a2,hb,cond_false,Bool.not_true]
     have e:sN n r=true:=EB.2 ⟨⟨by omega,by omega⟩,hb⟩
     rw[this,cond_false,e,Bool.true_and]
     have ih:=aoV n x fin rs (txG r s) (by simp only[txG];omega) (by simp only[txG];omega)
     rw[ih]
     have ed:decide (FY rs≤(txG r s).1)=decide (FY (r::rs)≤s.1):=by
      have:FY rs≤(txG r s).1↔FY (r::rs)≤s.1:=by simp only[txG,FY];omega
      exact decide_eq_decide.2 this
     rw[ed]
     simp only[txG,Fu,List.append_assoc]
theorem amV {α:Type} (bad:α) (k_:Bool→α) (q:au) (h_q:WtL au.ct q.enc) (hok:FG q=true):∃N,J_ bad k_ N q=k_ (PD q):=by
 have hq:FG q=true:=hok
 obtain⟨hf,hwn,hbn⟩:=aoU hq
 obtain⟨hl,hw⟩:=cU (au.Ez h_q)
 refine⟨q.aG.length+1, ?_⟩
 unfold J_ Ka PD
 refine II (fun _=>rfl) (fun hg=> ?_)
 have hn:2≤q.Ring.bB∧q.Ring.bB≤16:=by
  cases h1:Er q.Ring
  ·rw[h1] at hg;cases hg
  exact abC h1
 have asg:∀all:Rows,all.length≤16777216→G8 q.a_ all=true:=by
  intro all h
  have:=qU hf
  simp only[G8,hf,Bool.true_and,decide_eq_true_eq]
  omega
 have key:lS bad k_ (q.aG.length+1) q.aG (len q.aG) q.a_.cP q.a_.bB q.a_.Count q.a_.dn (q.aG.length+1) q.Ring.bB 0 []=Hq txQ txG (k_ false) (fun s=>k_ (dJ q.a_ s.2).2) q.aG (q.Ring.bB,[]):=by
  refine XG q.aG (fun n i (s:Int×Rows)=>lS bad k_ (q.aG.length+1) q.aG (len q.aG) q.a_.cP q.a_.bB q.a_.Count q.a_.dn n s.1 i s.2) txQ txG (k_ false) (fun s=>k_ (dJ q.a_ s.2).2) (fun i s=>0≤s.1∧s.1≤16∧s.2.length+aiC (q.aG.drop i)≤16777216) ?_ ?_ ?_ (q.Ring.bB,[]) ⟨by omega,by omega,by simpa using hbn⟩
  ·intro i s h hi hp
   have hb:=Qs h
   obtain⟨i1,i2,i3⟩:=hi
   have h1:¬rI (nth q.aG i) 1<1:=by
    intro hc;simp only[txQ,decide_eq_true hc,cond_true] at hp;cases hp
   have h2:¬s.1<rI (nth q.aG i) 1:=by
    intro hc;simp only[txQ,decide_eq_false h1,decide_eq_true hc,cond_true,cond_false] at hp;cases hp
   refine⟨by simp only[txG];omega,by simp only[txG];omega, ?_⟩
   simp only[txG,List.length_append]
   omega
  ·intro n i s h hi
   obtain⟨i1,i2,i3⟩:=hi
   have hb:=Qs h
   show lS bad k_ (q.aG.length+1) q.aG (len q.aG) q.a_.cP q.a_.bB q.a_.Count q.a_.dn (n+1) s.1 (i:Int) s.2=_
   rw[PH]
   have hr:room2 8 s.2 (rR (nth q.aG i) 2)=true:=Du (by omega) (by omega)
   simp only[Dn,ch h,bw h,bu h hl,Int.toNat_natCast,ah,ao,cond_true,hr]
   refine cond_congr rfl (fun _=>rfl) (fun hp=> ?_)
   have h1:¬rI (nth q.aG i) 1<1:=by
    intro hc;simp only[decide_eq_true hc,cond_true] at hp;cases hp
   have h2:¬s.1<rI (nth q.aG i) 1:=by
    intro hc;simp only[decide_eq_false h1,decide_eq_true hc,cond_true,cond_false] at hp;cases hp
   rw[d8 (n:=s.1 - rI (nth q.aG i) 1) (by omega) (by omega)]
   rfl
  ·intro n s hi
   obtain⟨i1,i2,i3⟩:=hi
   show lS bad k_ (q.aG.length+1) q.aG (len q.aG) q.a_.cP q.a_.bB q.a_.Count q.a_.dn (n+1) s.1 (q.aG.length:Int) s.2=_
   rw[PH]
   have hg:G8 (⟨q.a_.cP,q.a_.bB,q.a_.Count,q.a_.dn⟩:aJ) s.2=true:=asg s.2 (by omega)
   simp only[Dn,aQ,cond_false,hg,ah,cond_true]
 refine key.trans ?_
 refine (aoV q.Ring.bB (k_ false) (fun all=>k_ (dJ q.a_ all).2) q.aG (q.Ring.bB,[]) (by simp) (by show 0≤q.Ring.bB;omega)).trans ?_
 simp only[List.nil_append]
 cases q.aG.all (sN q.Ring.bB)
 ·rfl
 ·cases hd:decide (FY q.aG≤q.Ring.bB)
  ·simp only[cond_true,cond_false]
   cases (dJ q.a_ (Fu q.aG)).2<;>rfl
  ·simp only[cond_true]
   cases (dJ q.a_ (Fu q.aG)).2<;>rfl
def Dp {α:Type} (bad:α) (k_:Bool→α) (Ia:Int) (yG:Int) (yH:Int) (yI:Int) (yJ:Rows) (sT:Rows) (bZ:Int→Int→Rows→α) (bJ:Int) (k:Int) (all:Rows):α:=
 bif decide (k<len sT) then
  bif ak true (idx k sT) then
   bif bif !(aA (rI (nth sT (Int.toNat k)) 1) 1 Ia) then true else !(aA (rI (nth sT (Int.toNat k)) 0) 0 65535) then k_ false
   else bif ak true (room2 8 all (rR (nth sT (Int.toNat k)) 2)) then
     bZ (w64 (bJ+(rI (nth sT (Int.toNat k)) 1))) (w64 (k+1)) (all++(rR (nth sT (Int.toNat k)) 2))
    else bad
  else bad
 else bif ak true (G8 (⟨yG,yH,yI,yJ⟩:aJ) all) then
   k_ (bif (dJ (⟨yG,yH,yI,yJ⟩:aJ) all).2 then decide (bJ≤Ia) else false)
  else bad
def lT {α:Type} (bad:α) (k_:Bool→α) (N:Nat) (Ia:Int) (yG:Int) (yH:Int) (yI:Int) (yJ:Rows) (sT:Rows) (m_:Nat):Int→Int→Rows→α:=
 Nat.rec (motive:=fun _=>Int→Int→Rows→α) (fun _ _ _=>bad) (fun _ bZ=>Dp bad k_ Ia yG yH yI yJ sT bZ) m_
theorem PI {α:Type} (bad:α) (k_:Bool→α) (N:Nat) (Ia:Int) (yG:Int) (yH:Int) (yI:Int) (yJ:Rows) (sT:Rows) (m_:Nat) (bJ:Int) (k:Int) (all:Rows):lT bad k_ N Ia yG yH yI yJ sT (m_+1) bJ k all=Dp bad k_ Ia yG yH yI yJ sT (lT bad k_ N Ia yG yH yI yJ sT m_) bJ k all:=rfl
def Ke {α:Type} (bad:α) (k_:Bool→α) (l0:Int→Int→Int→Int→Rows→Rows→Int→Int→Rows→α) (q:au):α:=
 bif bif !(Er q.Ring) then true else bif !(fY q.a_) then true else !(aA q.Next 0 65535) then k_ false
 else l0 q.Ring.bB q.a_.cP q.a_.bB q.a_.Count q.a_.dn q.aG 0 0 []
def Kd {α:Type} (bad:α) (k_:Bool→α) (N:Nat) (q:au):α:=Ke bad k_ (fun Ia yG yH yI yJ sT=>lT bad k_ N Ia yG yH yI yJ sT N) q
theorem amY {α:Type} (bad:α) (k_:Bool→α) (q:au) (h_q:WtL au.ct q.enc) (hok:FG q=true):∃N,Kd bad k_ N q=k_ (PD q):=by
 have hq:FG q=true:=hok
 obtain⟨hf,hwn,hbn⟩:=aoU hq
 obtain⟨hl,hw⟩:=cU (au.Ez h_q)
 refine⟨q.aG.length+1, ?_⟩
 unfold Kd Ke PD
 refine II (fun _=>rfl) (fun hg=> ?_)
 have hn:2≤q.Ring.bB∧q.Ring.bB≤16:=by
  cases h1:Er q.Ring
  ·rw[h1] at hg;cases hg
  exact abC h1
 have asg:∀all:Rows,all.length≤16777216→G8 q.a_ all=true:=by
  intro all h
  have:=qU hf
  simp only[G8,hf,Bool.true_and,decide_eq_true_eq]
  omega
 have key:lT bad k_ (q.aG.length+1) q.Ring.bB q.a_.cP q.a_.bB q.a_.Count q.a_.dn q.aG (q.aG.length+1) 0 0 []=Hq (txP q.Ring.bB) txF (k_ false) (fun s=>k_ (bif (dJ q.a_ s.2).2 then decide (s.1≤q.Ring.bB) else false)) q.aG (0,[]):=by
  refine XG q.aG (fun n i (s:Int×Rows)=>lT bad k_ (q.aG.length+1) q.Ring.bB q.a_.cP q.a_.bB q.a_.Count q.a_.dn q.aG n s.1 i s.2) (txP q.Ring.bB) txF (k_ false) (fun s=>k_ (bif (dJ q.a_ s.2).2 then decide (s.1≤q.Ring.bB) else false)) (fun i s=>0≤s.1∧s.1≤16*(i:Int)∧s.2.length+aiC (q.aG.drop i)≤16777216) ?_ ?_ ?_ (0,[]) ⟨by simp,by simp,by simpa using hbn⟩
  ·intro i s h hi hp
   have hb:=Qs h
   obtain⟨i1,i2,i3⟩:=hi
   have h1:sN q.Ring.bB (nth q.aG i)=true:=by simpa [txP] using hp
   have h2:=(EB.1 h1).1
   refine⟨by simp only[txF];omega,by simp only[txF];omega, ?_⟩
   simp only[txF,List.length_append]
   omega
  ·intro n i s h hi
   obtain⟨i1,i2,i3⟩:=hi
   have hb:=Qs h
   show lT bad k_ (q.aG.length+1) q.Ring.bB q.a_.cP q.a_.bB q.a_.Count q.a_.dn q.aG (n+1) s.1 (i:Int) s.2=_
   rw[PI]
   have hr:room2 8 s.2 (rR (nth q.aG i) 2)=true:=Du (by omega) (by omega)
   simp only[Dp,ch h,bw h,bu h hl,Int.toNat_natCast,ah,ao,cond_true,hr,txP]
   have hc:(bif !(aA (rI (nth q.aG i) 1) 1 q.Ring.bB) then true else !(aA (rI (nth q.aG i) 0) 0 65535))= !(sN q.Ring.bB (nth q.aG i)):=by
    unfold sN
    cases aA (rI (nth q.aG i) 1) 1 q.Ring.bB<;>rfl
   rw[hc]
   refine cond_congr rfl (fun _=>rfl) (fun hp=> ?_)
   have h1:sN q.Ring.bB (nth q.aG i)=true:=by simpa using hp
   have h2:=(EB.1 h1).1
   rw[d8 (n:=s.1+rI (nth q.aG i) 1) (by omega) (by omega)]
   rfl
  ·intro n s hi
   obtain⟨i1,i2,i3⟩:=hi
   show lT bad k_ (q.aG.length+1) q.Ring.bB q.a_.cP q.a_.bB q.a_.Count q.a_.dn q.aG (n+1) s.1 (q.aG.length:Int) s.2=_
   rw[PI]
   have hg:G8 (⟨q.a_.cP,q.a_.bB,q.a_.Count,q.a_.dn⟩:aJ) s.2=true:=asg s.2 (by omega)
   simp only[Dp,aQ,cond_false,hg,ah,cond_true]
 refine key.trans ?_
 refine (apT q.Ring.bB (k_ false) (fun s=>k_ (bif (dJ q.a_ s.2).2 then decide (s.1≤q.Ring.bB) else false)) q.aG (0,[])).trans ?_
 simp only[List.nil_append,Int.zero_add]
 exact cT rfl rfl
end
end Go.Proofs.YthpmalpdnnbkgaaGreat.Pl
