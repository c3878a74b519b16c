/- What functions of the program compute, in plain Lean, as the value machine runs them. Conditions: none. -/
import Derived.Test.YthpmalpdnnbkgaaGreatPFa
set_option linter.unusedVariables false
set_option linter.unusedSimpArgs false
set_option maxRecDepth 100000
namespace Go.Proofs.YthpmalpdnnbkgaaGreat.Pl
open Vm
noncomputable section
def ua {α:Type} (bad:α) (k_:Bool→α) (l1:Int→Int→Int→Rows→Int→α) (x:Rows) (bl:Int) (fj:Rows) (bZ:Int→α) (bz:Int):α:=
 let z0:Rows:=GY (bh.ae (nth x (Int.toNat bz)) 1)
 bif decide (bz<bl) then
  bif ak true (idx bz x) then
   bif bif !(aA (rI (nth x (Int.toNat bz)) 0) 0 2) then true else !(aA (rI (nth x (Int.toNat bz)) 6) 0 3) then k_ false
   else bif (rI (nth x (Int.toNat bz)) 0) != 1 then
    bif bif !(bif (rI (nth x (Int.toNat bz)) 1)==0 then bif (rI (nth x (Int.toNat bz)) 2)==0 then bif (rI (nth x (Int.toNat bz)) 3)==0 then bif (rI (nth x (Int.toNat bz)) 4)==0 then bif (rI (nth x (Int.toNat bz)) 5)==0 then true else false else false else false else false else false) then true else (rI (nth x (Int.toNat bz)) 6) != 0 then k_ false
    else bZ (w64 (bz+1))
   else bif (Tq (⟨fj⟩:ag) (bh.ae (nth x (Int.toNat bz)) 1)) != bz then k_ false
   else l1 bz bz (len z0) z0 0
  else bad
 else k_ true
def t_ {α:Type} (bad:α) (k_:Bool→α) (bZ:Int→α) (bz:Int) (Hw:Int) (x_6:Int) (fj:Rows) (U8:Rows) (ih1:Int→α) (x_7:Int):α:=
 bif decide (x_7<x_6) then
  bif ak (ak true (idx x_7 U8)) (inl (Int.toNat x_7) U8) then
   bif (rI (nth U8 (Int.toNat x_7)) 0)==bz then bZ (w64 (Hw+1))
   else bif ak true (idx (rI (nth U8 (Int.toNat x_7)) 0) fj) then
     bif (rI (nth fj (Int.toNat (rI (nth U8 (Int.toNat x_7)) 0))) 0)==0 then k_ false
     else ih1 (w64 (x_7+1))
    else bad
  else bad
 else bZ (w64 (Hw+1))
def lb {α:Type} (bad:α) (k_:Bool→α) (N:Nat) (bZ:Int→α) (bz:Int) (Hw:Int) (x_6:Int) (fj:Rows) (U8:Rows) (m_:Nat):Int→α:=
 Nat.rec (motive:=fun _=>Int→α) (fun _=>bad) (fun _ ih1=>t_ bad k_ bZ bz Hw x_6 fj U8 ih1) m_
theorem Kh {α:Type} (bad:α) (k_:Bool→α) (N:Nat) (bZ:Int→α) (bz:Int) (Hw:Int) (x_6:Int) (fj:Rows) (U8:Rows) (m_:Nat) (x_7:Int):lb bad k_ N bZ bz Hw x_6 fj U8 (m_+1) x_7=t_ bad k_ bZ bz Hw x_6 fj U8 (lb bad k_ N bZ bz Hw x_6 fj U8 m_) x_7:=rfl
def ij {α:Type} (bad:α) (k_:Bool→α) (N:Nat) (x:Rows) (bl:Int) (fj:Rows) (m_:Nat):Int→α:=
 Nat.rec (motive:=fun _=>Int→α) (fun _=>bad) (fun _ bZ=>ua bad k_ (fun bz Hw x_6 U8=>lb bad k_ N bZ bz Hw x_6 fj U8 N) x bl fj bZ) m_
theorem Ki {α:Type} (bad:α) (k_:Bool→α) (N:Nat) (x:Rows) (bl:Int) (fj:Rows) (m_:Nat) (bz:Int):ij bad k_ N x bl fj (m_+1) bz=ua bad k_ (fun bz Hw x_6 U8=>lb bad k_ N (ij bad k_ N x bl fj m_) bz Hw x_6 fj U8 N) x bl fj (ij bad k_ N x bl fj m_) bz:=rfl
def BF {α:Type} (bad:α) (k_:Bool→α) (l0:Rows→Int→Rows→Int→α) (t:ag):α:=
 bif (len t.aL) != 8 then k_ false
 else l0 t.aL (len t.aL) t.aL 0
def BD {α:Type} (bad:α) (k_:Bool→α) (N:Nat) (t:ag):α:=BF bad k_ (fun x bl fj=>ij bad k_ N x bl fj N) t
theorem MW {p:Nat→List DC→Bool} :∀ {l:Rows} {s:Nat},lA p l s=false→∀i,i<l.length→p (s+i) (nth l i)=false
 | [],_,_,i,h=>by simp at h
 | r::rs,s,h,i,hi=>by
  simp only[lA] at h
  cases hp:p s r
  ·rw[hp,cond_false] at h
   cases i with
   | zero=>exact hp
   | succ i=>
    have:=MW h i (by simpa using hi)
    rw[show s+(i+1)=s+1+i by omega]
    exact this
  ·rw[hp] at h
   cases h
theorem UI {p:Nat→List DC→Bool} :∀ {l:Rows} {s:Nat},(∀i,i<l.length→p (s+i) (nth l i)=false)→lA p l s=false
 | [],_,_=>rfl
 | r::rs,s,h=>by
  simp only[lA]
  rw[show p s r=false from h 0 (by simp),cond_false]
  exact UI (fun i hi=>by
   have:=h (i+1) (by simpa using hi)
   rw[show s+1+i=s+(i+1) by omega]
   exact this)
def aaZ (t:Rows) (i:Int):Rows→Bool
 | []=>false
 | r::rs=>bif (rI r 0)==i then false else bif (rI (nth t (Int.toNat (rI r 0))) 0)==0 then true else aaZ t i rs
theorem apR {α:Type} (t:Rows) (x:Int) (A B:α):∀(l:Rows) (j:Nat),u0 (σ:=Unit) (fun _ r c s=>bif (rI r 0)==x then A else bif (rI (nth t (Int.toNat (rI r 0))) 0)==0 then B else c s) (fun _=>A) l j ()=bif aaZ t x l then B else A
 | [],_=>rfl
 | r::rs,j=>by
  simp only[u0,aaZ]
  cases (rI r 0)==x
  ·cases (rI (nth t (Int.toNat (rI r 0))) 0)==0
   ·exact apR t x A B rs (j+1)
   ·rfl
  ·rfl
def als (r:List DC):Bool:=bif (rI r 1)==0 then bif (rI r 2)==0 then bif (rI r 3)==0 then bif (rI r 4)==0 then bif (rI r 5)==0 then true else false else false else false else false else false
def PG (r:List DC):Bool:=bif !(aA (rI r 0) 0 2) then true else !(aA (rI r 6) 0 3)
def UJ (t:Rows) (i:Nat) (r:List DC):Bool:=bif PG r then true else bif (rI r 0) != 1 then bif !(als r) then true else (rI r 6) != 0 else bif (Tq (⟨t⟩:ag) (bh.ae r 1)) != (i:Int) then true else aaZ t (i:Int) (GY (bh.ae r 1))
def aiA (t:Rows) (i:Nat) (r:List DC):Bool:=bif PG r then true else bif (rI r 0) != 1 then bif (rI r 6) != 0 then true else !(als r) else (MG (⟨t⟩:ag) (bh.ae r 1)) != (i:Int)
def vb (t:ag):Bool:=bif (len t.aL) != 8 then false else bif lA (UJ t.aL) t.aL 0 then false else true
def an0 (t:Rows) (h:Int) (i:Int):Nat→Nat→Bool
 | 0,_=>false
 | m+1,k=>bif (h+(k:Int)) % 8==i then false else bif (rI (nth t (Int.toNat ((h+(k:Int)) % 8))) 0)==0 then true else an0 t h i m (k+1)
theorem alu (t:Rows) (i:Int) (f:bh):aaZ t i (GY f)=an0 t (dY f) i 8 0:=rfl
theorem IU {r:List DC} {f:bh} :qR r f=true↔rI r 0=1∧bh.ae r 1=f:=by
 cases f with
 | mk a b c d e=>
  simp only[qR,bh.ae,bh.mk.injEq]
  by_cases h0:rI r 0=1
  ·by_cases h1:rI r 1=a
   ·by_cases h2:rI r 2=b
    ·by_cases h3:rI r 3=c
     ·by_cases h4:rI r 4=d
      ·by_cases h5:rI r 5=e
       ·simp [h0,h1,h2,h3,h4,h5]
       ·simp [h0,h1,h2,h3,h4,h5]
      ·simp [h0,h1,h2,h3,h4]
     ·simp [h0,h1,h2,h3]
    ·simp [h0,h1,h2]
   ·simp [h0,h1]
  ·simp [h0]
theorem am5 {r:List DC} (h:rI r 0=1):qR r (bh.ae r 1)=true:=IU.2 ⟨h,rfl⟩
theorem am6 {t:Rows} {h:Int} {f:bh} {i:Nat} (hi:i<8) (h1:rI (nth t i) 0=1) (hf:bh.ae (nth t i) 1=f)
  (hu:∀j,j<8→qR (nth t j) f=true→j=i):∀(m k:Nat),(∃d,d<m∧(h+(k:Int)+(d:Int)) % 8=(i:Int))→an0 t h (i:Int) m k=false→al9 t h f m k=(i:Int)
 | 0,k,⟨d,hd,_⟩,_=>by omega
 | m+1,k,⟨d,hd,he⟩,hw=>by
  unfold al9
  unfold an0 at hw
  by_cases hk:(h+(k:Int)) % 8=(i:Int)
  ·rw[hk,Int.toNat_natCast]
   have e0:((rI (nth t i) 0)==0)=false:=by rw[h1];rfl
   rw[e0,IU.2 ⟨h1,hf⟩]
   rfl
  ·have e1:((h+(k:Int)) % 8==(i:Int))=false:=by simpa using hk
   rw[e1,cond_false] at hw
   cases e0:(rI (nth t (Int.toNat ((h+(k:Int)) % 8))) 0)==0
   ·rw[e0,cond_false] at hw
    cases e2:qR (nth t (Int.toNat ((h+(k:Int)) % 8))) f
    ·simp only[cond_false]
     refine am6 hi h1 hf hu m (k+1) ⟨d - 1, ?_, ?_⟩ hw
     ·rcases d with _ | d
      ·exact absurd (by simpa using he) hk
      ·omega
     ·rcases d with _ | d
      ·exact absurd (by simpa using he) hk
      ·rw[←he]
       congr 1
       omega
    ·have:=hu _ (by omega) e2
     exact absurd (by omega) hk
   ·rw[e0] at hw
    cases hw
theorem am7 {t:Rows} {h:Int} {f:bh} {i:Nat} :∀(m k:Nat),al9 t h f m k=(i:Int)→an0 t h (i:Int) m k=false
 | 0,_,_=>rfl
 | m+1,k,hl=>by
  unfold al9 at hl
  unfold an0
  cases e1:((h+(k:Int)) % 8==(i:Int))
  ·cases e0:(rI (nth t (Int.toNat ((h+(k:Int)) % 8))) 0)==0
   ·rw[e0,cond_false] at hl
    cases e2:qR (nth t (Int.toNat ((h+(k:Int)) % 8))) f
    ·rw[e2,cond_false] at hl
     exact am7 m (k+1) hl
    ·rw[e2,cond_true] at hl
     have:((h+(k:Int)) % 8==(i:Int))=true:=by simpa using hl
     rw[e1] at this
     cases this
   ·rw[e0,cond_true] at hl
    omega
  ·rfl
theorem aoP {t:Rows} {i:Nat} (h:i<t.length) (h1:rI (nth t i) 0=1):(Tq (⟨t⟩:ag) (bh.ae (nth t i) 1) != (i:Int))=A9 (fun j=>qR (nth t j) (bh.ae (nth t i) 1)) i 0:=by
 have:=UF (fun _ r=>qR r (bh.ae (nth t i) 1)) t 0 i h (am5 h1)
 rw[Nat.zero_add] at this
 exact this
theorem MX {p:Nat→Bool} :∀ {m s:Nat},A9 p m s=false↔∀j,s≤j→j<s+m→p j=false
 | 0,s=>by simp only[A9,true_iff];intro j h1 h2;omega
 | m+1,s=>by
  simp only[A9]
  cases hp:p s
  ·simp only[cond_false]
   rw[MX]
   constructor
   ·intro h j h1 h2
    by_cases hj:j=s
    ·rw[hj];exact hp
    ·exact h j (by omega) (by omega)
   ·intro h j h1 h2
    exact h j (by omega) (by omega)
  ·simp only[cond_true]
   constructor
   ·intro h;cases h
   ·intro h
    have:=h s (by omega) (by omega)
    rw[hp] at this
    cases this
theorem apn {t:Rows} (h8:t.length=8):lA (aiA t) t 0=lA (UJ t) t 0:=by
 have zc:∀r:List DC,(bif !(als r) then true else (rI r 6) != 0)=(bif (rI r 6) != 0 then true else !(als r)):=by
  intro r
  cases als r<;>cases ((rI r 6) != 0)<;>rfl
 have sI:∀i,UJ t i (nth t i)=false→rI (nth t i) 0=1→PG (nth t i)=false∧A9 (fun j=>qR (nth t j) (bh.ae (nth t i) 1)) i 0=false∧an0 t (dY (bh.ae (nth t i) 1)) (i:Int) 8 0=false∨¬i<t.length:=by
  intro i h h1
  by_cases hi:i<t.length
  ·left
   unfold UJ at h
   have e1:((rI (nth t i) 0) != 1)=false:=by rw[h1];rfl
   rw[e1,aoP hi h1,alu] at h
   cases hs:PG (nth t i)
   ·rw[hs] at h
    simp only[cond_false] at h
    refine⟨rfl, ?_⟩
    cases ha:A9 (fun j=>qR (nth t j) (bh.ae (nth t i) 1)) i 0
    ·rw[ha,cond_false] at h
     exact⟨rfl,h⟩
    ·rw[ha] at h;cases h
   ·rw[hs] at h;cases h
  ·exact .inr hi
 have sS:∀i,i<t.length→aiA t i (nth t i)=false→rI (nth t i) 0=1→PG (nth t i)=false∧MG (⟨t⟩:ag) (bh.ae (nth t i) 1)=(i:Int):=by
  intro i hi h h1
  unfold aiA at h
  have e1:((rI (nth t i) 0) != 1)=false:=by rw[h1];rfl
  rw[e1] at h
  cases hs:PG (nth t i)
  ·rw[hs] at h
   simp only[cond_false] at h
   exact⟨rfl,by simpa using h⟩
  ·rw[hs] at h;cases h
 cases hI:lA (UJ t) t 0
 ·have hI:=MW hI
  simp only[Nat.zero_add] at hI
  refine UI (fun i hi=> ?_)
  rw[Nat.zero_add]
  by_cases h1:rI (nth t i) 0=1
  ·rcases sI i (hI i hi) h1 with ⟨a,b,c⟩ | h
   ·have hu:∀j,j<8→qR (nth t j) (bh.ae (nth t i) 1)=true→j=i:=by
     intro j hj hq
     obtain⟨j1,j2⟩:=IU.1 hq
     rcases Nat.lt_trichotomy j i with hlt | rfl | hgt
     ·have:=MX.1 b j (by omega) (by omega)
      rw[hq] at this
      cases this
     ·rfl
     ·rcases sI j (hI j (by omega)) j1 with ⟨_,b',_⟩ | h
      ·have:=MX.1 b' i (by omega) (by omega)
       rw[IU.2 ⟨h1,j2.symm⟩] at this
       cases this
      ·omega
    have hf:MG (⟨t⟩:ag) (bh.ae (nth t i) 1)=(i:Int):=by
     have hh:=MT (bh.ae (nth t i) 1)
     refine am6 (by omega) h1 rfl hu 8 0 ⟨(((i:Int) - dY (bh.ae (nth t i) 1)) % 8).toNat,by omega,by omega⟩ c
    unfold aiA
    rw[a,hf,h1]
    simp
   ·exact absurd hi h
  ·have:=hI i hi
   unfold UJ at this
   unfold aiA
   have e1:((rI (nth t i) 0) != 1)=true:=by simpa using h1
   rw[e1] at this ⊢
   rw[zc] at this
   exact this
 ·cases hS:lA (aiA t) t 0
  ·have hS:=MW hS
   simp only[Nat.zero_add] at hS
   have:lA (UJ t) t 0=false:=by
    refine UI (fun i hi=> ?_)
    rw[Nat.zero_add]
    by_cases h1:rI (nth t i) 0=1
    ·obtain⟨a,b⟩:=sS i hi (hS i hi) h1
     have hu:A9 (fun j=>qR (nth t j) (bh.ae (nth t i) 1)) i 0=false:=by
      refine MX.2 (fun j _ hj=> ?_)
      cases hq:qR (nth t j) (bh.ae (nth t i) 1)
      ·rfl
      ·obtain⟨j1,j2⟩:=IU.1 hq
       have:=(sS j (by omega) (hS j (by omega)) j1).2
       rw[j2,b] at this
       omega
     unfold UJ
     have e1:((rI (nth t i) 0) != 1)=false:=by rw[h1];rfl
     rw[a,e1,aoP hi h1,hu,alu,am7 8 0 b]
     rfl
    ·have:=hS i hi
     unfold aiA at this
     unfold UJ
     have e1:((rI (nth t i) 0) != 1)=true:=by simpa using h1
     rw[e1] at this ⊢
     rw[zc]
     exact this
   rw[hI] at this
   cases this
  ·rfl
theorem afX {α:Type} (bad:α) (k_:Bool→α) (t:ag) (h_t:WtL ag.ct t.enc):∃N,BD bad k_ N t=k_ (vb t):=by
 obtain⟨hl,_⟩:=cU (ag.IQ h_t)
 refine⟨t.aL.length+9, ?_⟩
 unfold BD BF vb
 refine II (fun _=>rfl) (fun hg=> ?_)
 have h8:t.aL.length=8:=by
  have:len t.aL=8:=by simpa using hg
  simp only[len] at this
  omega
 have key:ij bad k_ (t.aL.length+9) t.aL (len t.aL) t.aL (t.aL.length+9) 0=bif lA (UJ t.aL) t.aL 0 then k_ false else k_ true:=by
  refine (tQ t.aL (ij bad k_ (t.aL.length+9) t.aL (len t.aL) t.aL) (fun i r c=>bif UJ t.aL i r then k_ false else c) (k_ true) ?_ ?_ (t.aL.length+9) (by omega)).trans (yB (UJ t.aL) (k_ false) (k_ true) t.aL 0)
  ·intro n i h
   rw[Ki]
   have hc:∀z:Int,rI (nth t.aL i) 0=z→True:=fun _ _=>trivial
   have hw8:(GY (bh.ae (nth t.aL i) 1)).length=8:=rfl
   have inner:∀ih:Int→α,lb bad k_ (t.aL.length+9) ih (i:Int) (i:Int) (len (GY (bh.ae (nth t.aL i) 1))) t.aL (GY (bh.ae (nth t.aL i) 1)) (t.aL.length+9) 0=bif aaZ t.aL (i:Int) (GY (bh.ae (nth t.aL i) 1)) then k_ false else ih ((i:Int)+1):=by
    intro ih
    refine (tQ (GY (bh.ae (nth t.aL i) 1)) (lb bad k_ (t.aL.length+9) ih (i:Int) (i:Int) (len (GY (bh.ae (nth t.aL i) 1))) t.aL (GY (bh.ae (nth t.aL i) 1))) (fun j r c=>bif (rI r 0)==(i:Int) then ih ((i:Int)+1) else bif (rI (nth t.aL (Int.toNat (rI r 0))) 0)==0 then k_ false else c) (ih ((i:Int)+1)) ?_ ?_ (t.aL.length+9) (by omega)).trans (apR t.aL (i:Int) (ih ((i:Int)+1)) (k_ false) (GY (bh.ae (nth t.aL i) 1)) 0)
    ·intro n j hj
     rw[Kh]
     have hx:idx (rI (nth (GY (bh.ae (nth t.aL i) 1)) j) 0) t.aL=true:=by
      have:rI (nth (GY (bh.ae (nth t.aL i) 1)) j) 0=(dY (bh.ae (nth t.aL i) 1)+(j:Int)) % 8:=by
       rw[hw8] at hj
       rcases j with _ | _ | _ | _ | _ | _ | _ | _ | j
       all_goals first | rfl | omega
      rw[this]
      simp only[idx,Bool.and_eq_true,decide_eq_true_eq,h8]
      omega
     have w1:w64 ((i:Int)+1)=(i:Int)+1:=bu h hl
     have w2:w64 ((j:Int)+1)=(j:Int)+1:=d8 (by omega) (by omega)
     simp only[t_,ch hj,bw hj,eI hj,hx,w1,w2,Int.toNat_natCast,ah,ao,cond_true]
    ·intro n
     rw[Kh]
     simp only[t_,aQ,cond_false,bu h hl]
   unfold ua
   simp only[inner,ch h,bw h,bu h hl,Int.toNat_natCast,ah,ao,cond_true]
   unfold UJ
   show (bif PG (nth t.aL i) then k_ false else _)=_
   cases PG (nth t.aL i)
   ·simp only[cond_false]
    cases ((rI (nth t.aL i) 0) != 1)
    ·simp only[cond_false]
     cases (Tq (⟨t.aL⟩:ag) (bh.ae (nth t.aL i) 1) != (i:Int))<;>rfl
    ·rfl
   ·rfl
  ·intro n
   rw[Ki]
   simp only[ua,aQ,cond_false]
 refine key.trans ?_
 exact cT rfl rfl
def ub {α:Type} (bad:α) (k_:Bool→α) (fj:Rows) (bZ:Int→α) (k:Int):α:=
 bif decide (k<len fj) then
  bif ak true (idx k fj) then
   bif bif !(aA (rI (nth fj (Int.toNat k)) 0) 0 2) then true else !(aA (rI (nth fj (Int.toNat k)) 6) 0 3) then k_ false
   else bif (rI (nth fj (Int.toNat k)) 0) != 1 then
    bif bif (rI (nth fj (Int.toNat k)) 6) != 0 then true else !(bif (rI (nth fj (Int.toNat k)) 1)==0 then bif (rI (nth fj (Int.toNat k)) 2)==0 then bif (rI (nth fj (Int.toNat k)) 3)==0 then bif (rI (nth fj (Int.toNat k)) 4)==0 then bif (rI (nth fj (Int.toNat k)) 5)==0 then true else false else false else false else false else false) then k_ false
    else bZ (w64 (k+1))
   else bif ak true (aoK (⟨fj⟩:ag) (bh.ae (nth fj (Int.toNat k)) 1)) then
     bif (MG (⟨fj⟩:ag) (bh.ae (nth fj (Int.toNat k)) 1)) != k then k_ false
     else bZ (w64 (k+1))
    else bad
  else bad
 else k_ true
def ld {α:Type} (bad:α) (k_:Bool→α) (N:Nat) (fj:Rows) (m_:Nat):Int→α:=
 Nat.rec (motive:=fun _=>Int→α) (fun _=>bad) (fun _ bZ=>ub bad k_ fj bZ) m_
theorem Kj {α:Type} (bad:α) (k_:Bool→α) (N:Nat) (fj:Rows) (m_:Nat) (k:Int):ld bad k_ N fj (m_+1) k=ub bad k_ fj (ld bad k_ N fj m_) k:=rfl
def BJ {α:Type} (bad:α) (k_:Bool→α) (l0:Rows→Int→α) (t:ag):α:=
 bif (len t.aL) != 8 then k_ false
 else l0 t.aL 0
def BI {α:Type} (bad:α) (k_:Bool→α) (N:Nat) (t:ag):α:=BJ bad k_ (fun fj=>ld bad k_ N fj N) t
theorem af1 {α:Type} (bad:α) (k_:Bool→α) (t:ag) (h_t:WtL ag.ct t.enc):∃N,BI bad k_ N t=k_ (vb t):=by
 obtain⟨hl,_⟩:=cU (ag.IQ h_t)
 refine⟨t.aL.length+1, ?_⟩
 unfold BI BJ vb
 refine II (fun _=>rfl) (fun hg=> ?_)
 have h8:t.aL.length=8:=by
  have:len t.aL=8:=by simpa using hg
  simp only[len] at this
  omega
 have key:ld bad k_ (t.aL.length+1) t.aL (t.aL.length+1) 0=bif lA (aiA t.aL) t.aL 0 then k_ false else k_ true:=by
  refine (dQ t.aL (ld bad k_ (t.aL.length+1) t.aL) (fun i r c=>bif aiA t.aL i r then k_ false else c) (k_ true) ?_ ?_).trans (yB (aiA t.aL) (k_ false) (k_ true) t.aL 0)
  ·intro n i h
   rw[Kj]
   have ho:aoK (⟨t.aL⟩:ag) (bh.ae (nth t.aL i) 1)=true:=decide_eq_true h8
   simp only[ub,ho,ch h,bw h,bu h hl,Int.toNat_natCast,ah,ao,cond_true]
   unfold aiA
   show (bif PG (nth t.aL i) then k_ false else _)=_
   cases PG (nth t.aL i)
   ·simp only[cond_false]
    cases ((rI (nth t.aL i) 0) != 1)
    ·rfl
    ·rfl
   ·rfl
  ·intro n
   rw[Kj]
   simp only[ub,aQ,cond_false]
 refine key.trans ?_
 rw[apn h8]
 exact cT rfl rfl
end
end Go.Proofs.YthpmalpdnnbkgaaGreat.Pl
