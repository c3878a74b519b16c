/- Plain forms. Conditions: as each says. -/
import Derived.Test.YtngbcccnjiaddaaGreatP0
import Derived.Test.YtngbcccnjiaddaaGreatBit
import Derived.Test.YtngbcccnjiaddaaGreatDp
set_option linter.unusedVariables false
set_option linter.unusedSimpArgs false
set_option maxRecDepth 100000
namespace Go.Proofs.YtngbcccnjiaddaaGreat.Pl
open Vm
noncomputable section
variable {α:Type} (jK:α)
def nkz (k_:Int→α) (s:Bytes) (at_:Int):α:=
 bif bif decide (at_<0) then true else decide (nK ((len s) - 4)<at_) then k_ (-1)
 else bif DF (DF (DF (DF true (idx at_ s)) (idx (nK (at_+1)) s)) (idx (nK (at_+2)) s)) (idx (nK (at_+3)) s) then
   k_ (bits .or .i64 (bits .or .i64 (bits .or .i64 (nei .i64 (nK (tK s at_)) 24) (nei .i64 (nK (tK s (nK (at_+1)))) 16)) (nei .i64 (nK (tK s (nK (at_+2)))) 8)) (nK (tK s (nK (at_+3)))))
  else jK
def q_ (s:Bytes) (at_:Int):Int:=bif bif decide (at_<0) then true else decide (len s<at_+4) then -1 else (tK s at_)*16777216+(tK s (at_+1))*65536+(tK s (at_+2))*256+tK s (at_+3)
theorem nv4 (k_:Int→α) (s:Bytes) (at_:Int) (xw:Gk .str (.str s)) (Qe:Gk .i (.int at_)):nkz jK k_ s at_=k_ (q_ s at_):=by
 have hl:=xv xw
 have ha:=ye Qe
 have hl0:0≤len s:=by simp [len]
 have F1:len s≤9223372036854775807:=by simp only[len];omega
 have db:∀j:Int,at_≤j→j<at_+4→0≤at_→at_+4≤len s→idx j s=true:=by
  intro j h1 h2 h3 h4
  simp only[len] at h4
  simp only[idx,Bool.and_eq_true,decide_eq_true_eq]
  omega
 unfold nkz q_
 by_cases hc:at_<0
 ·simp only[hc,decide_true,cond_true]
 ·by_cases hd:len s<at_+4
  ·have IY:nK (len s - 4)<at_:=by rw[nF (by omega) (by omega)];omega
   simp only[hc,hd,IY,decide_true,decide_false,cond_true,cond_false]
  ·have IY:¬nK (len s - 4)<at_:=by rw[nF (by omega) (by omega)];omega
   have w1:nK (at_+1)=at_+1:=nF (by omega) (by omega)
   have w2:nK (at_+2)=at_+2:=nF (by omega) (by omega)
   have w3:nK (at_+3)=at_+3:=nF (by omega) (by omega)
   have b0:=ry s at_
   have c0:=sC s at_
   have b1:=ry s (at_+1)
   have c1:=sC s (at_+1)
   have b2:=ry s (at_+2)
   have c2:=sC s (at_+2)
   have b3:=ry s (at_+3)
   have c3:=sC s (at_+3)
   simp only[hc,hd,IY,decide_false,cond_false,w1,w2,w3,db at_ (by omega) (by omega) (by omega) (by omega),db (at_+1) (by omega) (by omega) (by omega) (by omega),db (at_+2) (by omega) (by omega) (by omega) (by omega),db (at_+3) (by omega) (by omega) (by omega) (by omega),nc,cond_true]
   rw[nF (n:=tK s at_) (by omega) (by omega),nF (n:=tK s (at_+1)) (by omega) (by omega),nF (n:=tK s (at_+2)) (by omega) (by omega),nF (n:=tK s (at_+3)) (by omega) (by omega)]
   rw[nz9,nzq,nyQ]
   rw[nF (n:=tK s at_*16777216) (by omega) (by omega),nF (n:=tK s (at_+1)*65536) (by omega) (by omega),nF (n:=tK s (at_+2)*256) (by omega) (by omega)]
   rw[nbB 24 (x:=tK s at_*16777216) (by omega) (by omega) (by omega) (by omega) (by omega) (by omega)]
   rw[nbB 16 (y:=tK s (at_+2)*256) (by omega) (by omega) (by omega) (by omega) (by omega) (by omega)]
   rw[nbB 8 (y:=tK s (at_+3)) (by omega) (by omega) (by omega) (by omega) (by omega) (by omega)]
def NB {α:Type} (k_:Bool→α) (s:Bytes) (at_ n:Int):α:=
 k_ (bif decide (0≤at_) then bif decide (at_≤len s) then decide (n≤nK ((len s) - at_)) else false else false)
def qB (s:Bytes) (at_ n:Int):Bool:=NB id s at_ n
theorem nou {α:Type} (k_:Bool→α) (s:Bytes) (at_ n:Int):NB k_ s at_ n=k_ (qB s at_ n):=by
 rfl
def nmd (k_:Int→α) (s:Bytes) (at_:Int):α:=
 bif !(qB s at_ 2) then k_ (-1)
 else bif DF (DF true (idx at_ s)) (idx (nK (at_+1)) s) then
   k_ (nK ((nei .i64 (nK (tK s at_)) 8)+(nK (tK s (nK (at_+1))))))
  else jK
def oM (s:Bytes) (at_:Int):Int:=bif !(qB s at_ 2) then -1 else (tK s at_)*256+tK s (at_+1)
theorem within_iff {s:Bytes} {at_ n:Int} (hs:s.length≤9223372036854775807):qB s at_ n=true↔0≤at_∧at_≤len s∧at_+n≤len s:=by
 have hl0:0≤len s:=by simp [len]
 have F1:len s≤9223372036854775807:=by simp only[len];omega
 unfold qB NB
 by_cases h1:0≤at_
 ·by_cases h2:at_≤len s
  ·rw[nF (by omega) (by omega)]
   simp only[h1,h2,decide_true,cond_true,id,true_and]
   constructor
   ·intro h
    have:=of_decide_eq_true h
    omega
   ·intro h
    exact decide_eq_true (by omega)
  ·simp [h1,h2]
 ·simp [h1]
theorem nwn (k_:Int→α) (s:Bytes) (at_:Int) (xw:Gk .str (.str s)):nmd jK k_ s at_=k_ (oM s at_):=by
 have hl:=xv xw
 have hl0:0≤len s:=by simp [len]
 have F1:len s≤9223372036854775807:=by simp only[len];omega
 unfold nmd oM
 cases hw:qB s at_ 2
 ·rfl
 ·have hh:=(within_iff hl).1 hw
  have w1:nK (at_+1)=at_+1:=nF (by omega) (by omega)
  have db:∀j:Int,0≤j→j<len s→idx j s=true:=by
   intro j h1 h2
   simp only[len] at h2
   simp only[idx,Bool.and_eq_true,decide_eq_true_eq]
   omega
  have b0:=ry s at_
  have c0:=sC s at_
  have b1:=ry s (at_+1)
  have c1:=sC s (at_+1)
  simp only[w1,db at_ (by omega) (by omega),db (at_+1) (by omega) (by omega),nc,cond_true,cond_false,Bool.not_true]
  rw[nF (n:=tK s at_) (by omega) (by omega),nF (n:=tK s (at_+1)) (by omega) (by omega),nyQ,nF (n:=tK s at_*256) (by omega) (by omega),nF (by omega) (by omega)]
def nme {α:Type} (k_:Int→α) (s:Bytes) (at_:Int):α:=
 bif !(qB s at_ 4) then k_ (-1)
 else k_ (nK ((nei .i64 (oM s at_) 16)+(oM s (nK (at_+2)))))
theorem nwo {α:Type} (k_:Int→α) (s:Bytes) (at_:Int) (xw:Gk .str (.str s)) (Qe:Gk .i (.int at_)):nme k_ s at_=k_ (q_ s at_):=by
 have hl:=xv xw
 have hl0:0≤len s:=by simp [len]
 have F1:len s≤9223372036854775807:=by simp only[len];omega
 have ha:=ye Qe
 unfold nme q_
 cases hw:qB s at_ 4
 ·have hh:¬(0≤at_∧at_≤len s∧at_+4≤len s):=fun h=>by rw[(within_iff hl).2 h] at hw;cases hw
  have:(bif decide (at_<0) then true else decide (len s<at_+4))=true:=by
   by_cases h1:at_<0
   ·simp [h1]
   ·simp only[h1,decide_false,cond_false,decide_eq_true_eq];omega
  rw[this]
  rfl
 ·have hh:=(within_iff hl).1 hw
  have:(bif decide (at_<0) then true else decide (len s<at_+4))=false:=by
   rw[show decide (at_<0)=false from decide_eq_false (by omega),show decide (len s<at_+4)=false from decide_eq_false (by omega)]
   rfl
  rw[this]
  have w2:nK (at_+2)=at_+2:=nF (by omega) (by omega)
  have h1:qB s at_ 2=true:=(within_iff hl).2 (by omega)
  have h2:qB s (at_+2) 2=true:=(within_iff hl).2 (by omega)
  have b0:=ry s at_
  have c0:=sC s at_
  have b1:=ry s (at_+1)
  have c1:=sC s (at_+1)
  have b2:=ry s (at_+2)
  have c2:=sC s (at_+2)
  have b3:=ry s (at_+3)
  have c3:=sC s (at_+3)
  have e:at_+2+1=at_+3:=by omega
  simp only[w2,oM,h1,h2,e,Bool.not_true,cond_false]
  rw[nzq,nF (n:=(tK s at_*256+tK s (at_+1))*65536) (by omega) (by omega),nF (by omega) (by omega)]
  exact congrArg k_ (by omega)
def Oa {α:Type} (k_:Bytes→α) (v:Int):α:=
 bif !(nf v 0 4294967295) then k_ []
 else k_ (toStr ([[.int (IntKind.wrap .u8 (So .i64 v 24))],[.int (IntKind.wrap .u8 (So .i64 v 16))],[.int (IntKind.wrap .u8 (So .i64 v 8))],[.int (IntKind.wrap .u8 v)]]))
def qb (v:Int):Bytes:=Oa id v
theorem nh6 {α:Type} (k_:Bytes→α) (v:Int):Oa k_ v=k_ (qb v):=by
 exact Jk rfl rfl
def N4 (k_:Int→α) (l1:Int→Int→Int→α) (s:Bytes) (ov:Int→Int→α) (c i:Int):α:=
 bif decide (i<len s) then
  bif DF true (idx i s) then
   l1 i (bits .xor .u32 c (IntKind.wrap .u32 (tK s i))) 0
  else jK
 else k_ (nK (bits .xor .u32 (IntKind.max .u32) c))
def Sz {α:Type} (jK:α) (k_:Int→α) (ov:Int→Int→α) (i:Int) (ih1:Int→Int→α) (U4 k:Int):α:=
 bif decide (k<8) then ih1 (bif (bits .and .u32 U4 1)==1 then bits .xor .u32 (So .u32 U4 1) 3988292384 else So .u32 U4 1) (nK (k+1))
 else ov U4 (nK (i+1))
def ub (k_:Int→α) (N:Nat) (ov:Int→Int→α) (i:Int) (m_:Nat):Int→Int→α:=
 Nat.rec (motive:=fun _=>Int→Int→α) (fun _ _=>jK) (fun _ ih1=>Sz jK k_ ov i ih1) m_
theorem nbW (k_:Int→α) (N:Nat) (ov:Int→Int→α) (i:Int) (m_:Nat) (U4 k:Int):ub jK k_ N ov i (m_+1) U4 k=Sz jK k_ ov i (ub jK k_ N ov i m_) U4 k:=rfl
def uX (k_:Int→α) (N:Nat) (s:Bytes) (m_:Nat):Int→Int→α:=
 Nat.rec (motive:=fun _=>Int→Int→α) (fun _ _=>jK) (fun _ ov=>N4 jK k_ (fun i=>ub jK k_ N ov i N) s ov) m_
theorem nbV (k_:Int→α) (N:Nat) (s:Bytes) (m_:Nat) (c i:Int):uX jK k_ N s (m_+1) c i=N4 jK k_ (fun i=>ub jK k_ N (uX jK k_ N s m_) i N) s (uX jK k_ N s m_) c i:=rfl
def nkt {α:Type} (jK:α) (k_:Int→α) (l0:Int→Int→α) (s:Bytes):α:=
 l0 4294967295 0
def nbn (k_:Int→α) (N:Nat) (s:Bytes):α:=nkt jK k_ (uX jK k_ N s N) s
def neu (c:Int):Int:=bif (bits .and .u32 c 1)==1 then bits .xor .u32 (So .u32 c 1) 3988292384 else So .u32 c 1
def nrK (s:Bytes) (i:Nat) (c:Int):Int:=itN (fun _ c=>neu c) 8 0 (bits .xor .u32 c (tK s i))
def neo (s:Bytes):Int:=4294967295 - itN (nrK s) s.length 0 4294967295
def U32 (c:Int):Prop:=0≤c∧c<4294967296
theorem ni1 {c:Int} (h:U32 c):U32 (neu c):=by
 obtain⟨h1,h2⟩:=h
 unfold neu
 rw[nw4]
 cases (bits .and .u32 c 1)==1
 ·exact⟨by simp only[cond_false];omega,by simp only[cond_false];omega⟩
 ·exact (nba (a:=c / 2) (by omega) (by omega) (by decide) (by decide)).2
theorem noN {s:Bytes} {i:Nat} {c:Int} (h:U32 c):U32 (nrK s i c):=by
 refine nxK (I:=U32) (B:=8) (fun _ c _ h=>ni1 h) 8 0 _ (by omega) ?_
 have b0:=ry s i
 have c0:=sC s i
 exact (nba h.1 h.2 b0 (by omega)).2
theorem nv1 (k_:Int→α) (s:Bytes) (xw:Gk .str (.str s)):∃N,nbn jK k_ N s=k_ (neo s):=by
 have hl:=xv xw
 refine⟨s.length+9, ?_⟩
 unfold nbn nkt
 have inner:∀(ih:Int→Int→α) (i c:Int),U32 c→ub jK k_ (s.length+9) ih i (s.length+9) c 0=ih (itN (fun _ c=>neu c) 8 0 c) (nK (i+1)):=by
  intro ih i c hc
  refine nrN 8 (fun n k c=>ub jK k_ (s.length+9) ih i n c k) (fun _ c=>neu c) (fun c=>ih c (nK (i+1))) U32 (fun _ _ _ h=>ni1 h) ?_ ?_ (s.length+9) c hc (by omega)
  ·intro n k c hk hc
   show ub jK k_ (s.length+9) ih i (n+1) c k=_
   rw[nbW]
   have h8:((k:Nat):Int)<8:=by omega
   have hw:nK ((k:Int)+1)=(k:Int)+1:=nF (by omega) (by omega)
   simp only[Sz,h8,decide_true,cond_true,hw]
   rfl
  ·intro n c hc
   show ub jK k_ (s.length+9) ih i (n+1) c 8=_
   rw[nbW]
   rfl
 refine (nrN s.length (fun n i c=>uX jK k_ (s.length+9) s n c i) (nrK s) (fun c=>k_ (4294967295 - c)) U32 (fun _ _ _ h=>noN h) ?_ ?_ (s.length+9) 4294967295 ⟨by decide,by decide⟩ (by omega)).trans rfl
 ·intro n i c h hc
  show uX jK k_ (s.length+9) s (n+1) c i=_
  rw[nbV]
  have b0:=ry s i
  have c0:=sC s i
  simp only[N4,oV h,nT h,nc,cond_true]
  rw[show IntKind.wrap .u32 (tK s i)=tK s i by rw[IntKind.wrap_u32];omega]
  rw[inner _ _ _ (nba hc.1 hc.2 b0 (by omega)).2,n_ h hl]
  rfl
 ·intro n c hc
  show uX jK k_ (s.length+9) s (n+1) c s.length=_
  rw[nbV]
  simp only[N4,nQ,cond_false]
  rw[ny8 hc.1 hc.2,nF (by have:=hc.1;have:=hc.2;omega) (by have:=hc.1;omega)]
def Om (k_:Int→α) (l1:Int→Int→Int→α) (s:Bytes) (ov:Int→Int→α) (c i:Int):α:=
 bif decide (i<len s) then
  bif DF true (idx i s) then
   l1 i (bits .xor .i64 c (nK (tK s i))) 0
  else jK
 else k_ (nK (4294967295 - c))
def SN {α:Type} (jK:α) (k_:Int→α) (ov:Int→Int→α) (i:Int) (ih1:Int→Int→α) (U4 k:Int):α:=
 bif decide (k<8) then ih1 (bif (bits .and .i64 U4 1)==1 then bits .xor .i64 (So .i64 U4 1) 3988292384 else So .i64 U4 1) (nK (k+1))
 else ov U4 (nK (i+1))
def ug (k_:Int→α) (N:Nat) (ov:Int→Int→α) (i:Int) (m_:Nat):Int→Int→α:=
 Nat.rec (motive:=fun _=>Int→Int→α) (fun _ _=>jK) (fun _ ih1=>SN jK k_ ov i ih1) m_
theorem ndv (k_:Int→α) (N:Nat) (ov:Int→Int→α) (i:Int) (m_:Nat) (U4 k:Int):ug jK k_ N ov i (m_+1) U4 k=SN jK k_ ov i (ug jK k_ N ov i m_) U4 k:=rfl
def u0 (k_:Int→α) (N:Nat) (s:Bytes) (m_:Nat):Int→Int→α:=
 Nat.rec (motive:=fun _=>Int→Int→α) (fun _ _=>jK) (fun _ ov=>Om jK k_ (fun i=>ug jK k_ N ov i N) s ov) m_
theorem ndu (k_:Int→α) (N:Nat) (s:Bytes) (m_:Nat) (c i:Int):u0 jK k_ N s (m_+1) c i=Om jK k_ (fun i=>ug jK k_ N (u0 jK k_ N s m_) i N) s (u0 jK k_ N s m_) c i:=rfl
def nl_ {α:Type} (jK:α) (k_:Int→α) (l0:Int→Int→α) (s:Bytes):α:=
 l0 4294967295 0
def nbK (k_:Int→α) (N:Nat) (s:Bytes):α:=nl_ jK k_ (u0 jK k_ N s N) s
theorem nwl (k_:Int→α) (s:Bytes) (xw:Gk .str (.str s)):∃N,nbK jK k_ N s=k_ (neo s):=by
 have hl:=xv xw
 refine⟨s.length+9, ?_⟩
 unfold nbK nl_
 have inner:∀(ih:Int→Int→α) (i c:Int),U32 c→ug jK k_ (s.length+9) ih i (s.length+9) c 0=ih (itN (fun _ c=>neu c) 8 0 c) (nK (i+1)):=by
  intro ih i c hc
  refine nrN 8 (fun n k c=>ug jK k_ (s.length+9) ih i n c k) (fun _ c=>neu c) (fun c=>ih c (nK (i+1))) U32 (fun _ _ _ h=>ni1 h) ?_ ?_ (s.length+9) c hc (by omega)
  ·intro n k c hk hc
   show ug jK k_ (s.length+9) ih i (n+1) c k=_
   rw[ndv]
   have h8:((k:Nat):Int)<8:=by omega
   have hw:nK ((k:Int)+1)=(k:Int)+1:=nF (by omega) (by omega)
   simp only[SN,h8,decide_true,cond_true,hw]
   unfold neu
   rw[nx1 hc.1 hc.2,nyR,nw4,(nba (a:=c / 2) (b:=3988292384) (by have:=hc.1;omega) (by have:=hc.2;omega) (by decide) (by decide)).1]
  ·intro n c hc
   show ug jK k_ (s.length+9) ih i (n+1) c 8=_
   rw[ndv]
   rfl
 refine (nrN s.length (fun n i c=>u0 jK k_ (s.length+9) s n c i) (nrK s) (fun c=>k_ (4294967295 - c)) U32 (fun _ _ _ h=>noN h) ?_ ?_ (s.length+9) 4294967295 ⟨by decide,by decide⟩ (by omega)).trans rfl
 ·intro n i c h hc
  show u0 jK k_ (s.length+9) s (n+1) c i=_
  rw[ndu]
  have b0:=ry s i
  have c0:=sC s i
  simp only[Om,oV h,nT h,nc,cond_true]
  rw[nF (n:=tK s i) (by omega) (by omega),(nba hc.1 hc.2 b0 (by omega)).1]
  rw[inner _ _ _ (nba hc.1 hc.2 b0 (by omega)).2,n_ h hl]
  rfl
 ·intro n c hc
  show u0 jK k_ (s.length+9) s (n+1) c s.length=_
  rw[ndu]
  simp only[Om,nQ,cond_false]
  rw[nF (by have:=hc.1;have:=hc.2;omega) (by have:=hc.1;omega)]
structure wV where
 Tos:Int
 Id:Int
 Ttl:Int
 noL:Int
 Src:Int
 Ua:Int
 Body:Bytes
def wV.enc (x:wV):List DC:=[.int x.Tos,.int x.Id,.int x.Ttl,.int x.noL,.int x.Src,.int x.Ua,.str x.Body]
def wV.na (r:List DC) (o:Nat):wV:=⟨rI r (o+0),rI r (o+1),rI r (o+2),rI r (o+3),rI r (o+4),rI r (o+5),rS r (o+6)⟩
def wV.ct:List CT:=[.i,.i,.i,.i,.i,.i,.str]
theorem wV.eta {r:List DC} (h:jI wV.ct r):(wV.na r 0).enc=r:=(show (wV.na r 0).enc=sV wV.ct r 0 from by kernel_rfl).trans (rp h)
theorem wV.nB {r:List CT} {ds:List DC} (h:jI (wV.ct++r) ds):∃(x:wV) (aW:List DC),ds=x.enc++aW∧jI wV.ct x.enc∧jI r aW:=by
 obtain⟨d1,d2,rfl,h1,h2⟩:=qt h
 exact⟨wV.na d1 0,d2,by rw[wV.eta h1],by rw[wV.eta h1];exact h1,h2⟩
theorem wV.nz1 {x:wV} (h:jI wV.ct x.enc):Gk .i (.int x.Tos):=oD 0 h rfl rfl
theorem wV.nz_ {x:wV} (h:jI wV.ct x.enc):Gk .i (.int x.Id):=oD 1 h rfl rfl
theorem wV.nz2 {x:wV} (h:jI wV.ct x.enc):Gk .i (.int x.Ttl):=oD 2 h rfl rfl
theorem wV.nz0 {x:wV} (h:jI wV.ct x.enc):Gk .i (.int x.Src):=oD 4 h rfl rfl
theorem wV.nzX {x:wV} (h:jI wV.ct x.enc):Gk .i (.int x.Ua):=oD 5 h rfl rfl
theorem wV.nwA {x:wV} (h:jI wV.ct x.enc):Gk .str (.str x.Body):=oD 6 h rfl rfl
structure qI where
 Ua:Int
 Src:Int
 sO:Int
 zh:Int
 Body:Bytes
def qI.enc (x:qI):List DC:=[.int x.Ua,.int x.Src,.int x.sO,.int x.zh,.str x.Body]
def qI.na (r:List DC) (o:Nat):qI:=⟨rI r (o+0),rI r (o+1),rI r (o+2),rI r (o+3),rS r (o+4)⟩
def qI.ct:List CT:=[.i,.i,.i,.i,.str]
theorem qI.eta {r:List DC} (h:jI qI.ct r):(qI.na r 0).enc=r:=(show (qI.na r 0).enc=sV qI.ct r 0 from by kernel_rfl).trans (rp h)
theorem qI.nB {r:List CT} {ds:List DC} (h:jI (qI.ct++r) ds):∃(x:qI) (aW:List DC),ds=x.enc++aW∧jI qI.ct x.enc∧jI r aW:=by
 obtain⟨d1,d2,rfl,h1,h2⟩:=qt h
 exact⟨qI.na d1 0,d2,by rw[qI.eta h1],by rw[qI.eta h1];exact h1,h2⟩
theorem qI.nzX {x:qI} (h:jI qI.ct x.enc):Gk .i (.int x.Ua):=oD 0 h rfl rfl
theorem qI.nz0 {x:qI} (h:jI qI.ct x.enc):Gk .i (.int x.Src):=oD 1 h rfl rfl
theorem qI.nx0 {x:qI} (h:jI qI.ct x.enc):Gk .i (.int x.sO):=oD 2 h rfl rfl
theorem qI.nwA {x:qI} (h:jI qI.ct x.enc):Gk .str (.str x.Body):=oD 4 h rfl rfl
def wN {α:Type} (k_:Bytes→α) (v:Int):α:=
 bif !(nf v 0 65535) then k_ []
 else k_ (toStr ([[.int (IntKind.wrap .u8 (So .i64 v 8))],[.int (IntKind.wrap .u8 v)]]))
def nO (v:Int):Bytes:=wN id v
theorem nhZ {α:Type} (k_:Bytes→α) (v:Int):wN k_ v=k_ (nO v):=by
 exact Jk rfl rfl
theorem qU (v:Int):(qb v).length≤4:=by
 unfold qb Oa
 cases !(nf v 0 4294967295)<;>simp [toStr]
theorem oq (v:Int):(nO v).length≤2:=by
 unfold nO wN
 cases !(nf v 0 65535)<;>simp [toStr]
theorem niW {v:Int} (h0:0≤v) (h1:v≤65535):(nO v).length=2:=by
 have hb:nf v 0 65535=true:=n0.2 ⟨h0,h1⟩
 unfold nO wN
 rw[hb]
 simp [toStr]
theorem nwI {v:Int} (h0:0≤v) (h1:v≤4294967295):(qb v).length=4:=by
 have hb:nf v 0 4294967295=true:=n0.2 ⟨h0,h1⟩
 unfold qb Oa
 rw[hb]
 simp [toStr]
theorem Pm {a b:Bytes} (h:a.length+b.length≤9223372036854775807):oK a b=true:=decide_eq_true h
theorem qZ (r:Rows):(toStr r).length=r.length:=by simp [toStr]
theorem nwk {q:nz} (h:sd q=true):q.Body.length≤320:=by
 unfold sd xk at h
 by_cases h3:320<len q.Body
 ·rw[decide_eq_true h3] at h
  revert h
  cases !(nf q.oX 0 65535)<;>cases !(nf q.oW 0 65535)<;>simp
 ·simp only[len] at h3
  omega
def neA {α:Type} (k_:Int→α) (a b:Int):α:=
 bif bif !(nf a 0 65535) then true else !(nf b 0 65535) then k_ (-1)
 else bif decide (65535<nK (a+b)) then k_ (nK ((nK (a+b)) - 65535))
 else k_ (nK (a+b))
def nkg (a b:Int):Int:=neA id a b
theorem nez {α:Type} (k_:Int→α) (a b:Int):neA k_ a b=k_ (nkg a b):=by
 exact Jk rfl (Jk rfl rfl)
def zW (k_:Int→α) (s:Bytes) (ov:Int→Int→α) (sum i:Int):α:=
 let z0:Bool:=decide (nK (i+1)<len s)
 let z1:Int:=nei .i64 (nK (tK s i)) 8
 bif decide (i<len s) then
  bif DF true (idx i s) then
   bif KW z0 (DF true (idx (nK (i+1)) s)) true then
    ov (nkg sum (bif z0 then bits .or .i64 z1 (nK (tK s (nK (i+1)))) else z1)) (nK (i+2))
   else jK
  else jK
 else k_ sum
def zV (k_:Int→α) (N:Nat) (s:Bytes) (m_:Nat):Int→Int→α:=
 Nat.rec (motive:=fun _=>Int→Int→α) (fun _ _=>jK) (fun _ ov=>zW jK k_ s ov) m_
theorem VC (k_:Int→α) (N:Nat) (s:Bytes) (m_:Nat):zV jK k_ N s (m_+1)=zW jK k_ s (zV jK k_ N s m_):=rfl
def TC {α:Type} (jK:α) (k_:Int→α) (l0:Int→Int→α) (s:Bytes):α:=
 l0 0 0
def ncz (k_:Int→α) (N:Nat) (s:Bytes):α:=TC jK k_ (zV jK k_ N s N) s
def swW (s:Bytes) (i:Nat):Int:=tK s (i:Int)*256+(bif decide (((i:Int)+1)<len s) then tK s ((i:Int)+1) else 0)
def swF (s:Bytes) (j:Nat) (c:Int):Int:=nkg c (swW s (2*j))
def ss (s:Bytes):Bool:=decide (s.length≤4294967296)
def nvw (s:Bytes):Int:=itN (swF s) ((s.length+1) / 2) 0 0
def Zg (s:Bytes):Int:=shut nvw s
theorem noM (s:Bytes):Zg s=itN (swF s) ((s.length+1) / 2) 0 0:=congrFun (nzc nvw) s
theorem npD (k_:Int→α) (s:Bytes) (xw:Gk .str (.str s)) (aF:ss s=true):∃N,ncz jK k_ N s=k_ (Zg s):=by
 have hl:=xv xw
 refine⟨s.length+1, ?_⟩
 have G1:s.length≤4294967296:=of_decide_eq_true aF
 rw[noM]
 unfold ncz TC
 have key:∀(m n j:Nat) (c:Int),j+m=(s.length+1) / 2→m<n→zV jK k_ (s.length+1) s n c ((2*j:Nat):Int)=k_ (itN (swF s) m j c):=by
  intro m
  induction m with
  | zero=>
   intro n j c h1 h2
   obtain⟨n,rfl⟩:∃q,n=q+1:=⟨n - 1,by omega⟩
   have hf:decide (((2*j:Nat):Int)<len s)=false:=decide_eq_false (by simp only[len];omega)
   rw[VC]
   simp only[zW,hf,cond_false,itN]
  | succ m ih=>
   intro n j c h1 h2
   obtain⟨n,rfl⟩:∃q,n=q+1:=⟨n - 1,by omega⟩
   have cd:2*j<s.length:=by omega
   have hw1:nK (((2*j:Nat):Int)+1)=((2*j:Nat):Int)+1:=nF (by omega) (by omega)
   have hw2:nK (((2*j:Nat):Int)+2)=((2*(j+1):Nat):Int):=by rw[nF (by omega) (by omega)];omega
   have aF:KW (decide (((2*j:Nat):Int)+1<len s)) (idx (((2*j:Nat):Int)+1) s) true=true:=naT (fun h=>by
    have h:=of_decide_eq_true h
    simp only[len] at h
    simp only[idx,Bool.and_eq_true,decide_eq_true_eq]
    omega) (fun _=>rfl)
   have b0:=ry s ((2*j:Nat):Int)
   have c0:=sC s ((2*j:Nat):Int)
   have b1:=ry s (((2*j:Nat):Int)+1)
   have c1:=sC s (((2*j:Nat):Int)+1)
   have e0:nei .i64 (tK s ((2*j:Nat):Int)) 8=tK s ((2*j:Nat):Int)*256:=by rw[nyQ,nF (by omega) (by omega)]
   have hv:(bif decide (((2*j:Nat):Int)+1<len s) then bits .or .i64 (tK s ((2*j:Nat):Int)*256) (tK s (((2*j:Nat):Int)+1)) else tK s ((2*j:Nat):Int)*256)=swW s (2*j):=by
    unfold swW
    cases decide (((2*j:Nat):Int)+1<len s)
    ·simp
    ·simp only[cond_true]
     rw[nbB 8 (y:=tK s (((2*j:Nat):Int)+1)) (by omega) (by omega) (by omega) (by omega) (by omega) (by omega)]
   rw[VC]
   simp only[zW,oV cd,nT cd,hw1,hw2,aF,nc,cond_true,nF (n:=tK s ((2*j:Nat):Int)) (by omega) (by omega),nF (n:=tK s (((2*j:Nat):Int)+1)) (by omega) (by omega),e0,hv]
   exact ih n (j+1) _ (by omega) (by omega)
 exact key ((s.length+1) / 2) (s.length+1) 0 0 (by omega) (by omega)
def Nz (k_:Int→α) (s:Bytes) (ov:Int→Int→α) (sum i:Int):α:=
 let z0:Bool:=decide (nK (i+1)<len s)
 let z1:Int:=nei .i64 (nK (tK s i)) 8
 bif decide (i<len s) then
  bif DF true (idx i s) then
   bif KW z0 (DF true (idx (nK (i+1)) s)) true then
    ov (nkg sum (bif z0 then nK (z1+(nK (tK s (nK (i+1))))) else z1)) (nK (i+2))
   else jK
  else jK
 else k_ sum
def Ny (k_:Int→α) (N:Nat) (s:Bytes) (m_:Nat):Int→Int→α:=
 Nat.rec (motive:=fun _=>Int→Int→α) (fun _ _=>jK) (fun _ ov=>Nz jK k_ s ov) m_
theorem WY (k_:Int→α) (N:Nat) (s:Bytes) (m_:Nat):Ny jK k_ N s (m_+1)=Nz jK k_ s (Ny jK k_ N s m_):=rfl
def T5 {α:Type} (jK:α) (k_:Int→α) (l0:Int→Int→α) (s:Bytes):α:=
 l0 0 0
def nd0 (k_:Int→α) (N:Nat) (s:Bytes):α:=T5 jK k_ (Ny jK k_ N s N) s
theorem nrs (k_:Int→α) (s:Bytes) (xw:Gk .str (.str s)) (aF:ss s=true):∃N,nd0 jK k_ N s=k_ (Zg s):=by
 have hl:=xv xw
 refine⟨s.length+1, ?_⟩
 have G1:s.length≤4294967296:=of_decide_eq_true aF
 rw[noM]
 unfold nd0 T5
 have key:∀(m n j:Nat) (c:Int),j+m=(s.length+1) / 2→m<n→Ny jK k_ (s.length+1) s n c ((2*j:Nat):Int)=k_ (itN (swF s) m j c):=by
  intro m
  induction m with
  | zero=>
   intro n j c h1 h2
   obtain⟨n,rfl⟩:∃q,n=q+1:=⟨n - 1,by omega⟩
   have hf:decide (((2*j:Nat):Int)<len s)=false:=decide_eq_false (by simp only[len];omega)
   rw[WY]
   simp only[Nz,hf,cond_false,itN]
  | succ m ih=>
   intro n j c h1 h2
   obtain⟨n,rfl⟩:∃q,n=q+1:=⟨n - 1,by omega⟩
   have cd:2*j<s.length:=by omega
   have hw1:nK (((2*j:Nat):Int)+1)=((2*j:Nat):Int)+1:=nF (by omega) (by omega)
   have hw2:nK (((2*j:Nat):Int)+2)=((2*(j+1):Nat):Int):=by rw[nF (by omega) (by omega)];omega
   have aF:KW (decide (((2*j:Nat):Int)+1<len s)) (idx (((2*j:Nat):Int)+1) s) true=true:=naT (fun h=>by
    have h:=of_decide_eq_true h
    simp only[len] at h
    simp only[idx,Bool.and_eq_true,decide_eq_true_eq]
    omega) (fun _=>rfl)
   have b0:=ry s ((2*j:Nat):Int)
   have c0:=sC s ((2*j:Nat):Int)
   have b1:=ry s (((2*j:Nat):Int)+1)
   have c1:=sC s (((2*j:Nat):Int)+1)
   have e0:nei .i64 (tK s ((2*j:Nat):Int)) 8=tK s ((2*j:Nat):Int)*256:=by rw[nyQ,nF (by omega) (by omega)]
   have hv:(bif decide (((2*j:Nat):Int)+1<len s) then nK (tK s ((2*j:Nat):Int)*256+tK s (((2*j:Nat):Int)+1)) else tK s ((2*j:Nat):Int)*256)=swW s (2*j):=by
    unfold swW
    cases decide (((2*j:Nat):Int)+1<len s)
    ·simp
    ·simp only[cond_true]
     rw[nF (by omega) (by omega)]
   rw[WY]
   simp only[Nz,oV cd,nT cd,hw1,hw2,aF,nc,cond_true,nF (n:=tK s ((2*j:Nat):Int)) (by omega) (by omega),nF (n:=tK s (((2*j:Nat):Int)+1)) (by omega) (by omega),e0,hv]
   exact ih n (j+1) _ (by omega) (by omega)
 exact key ((s.length+1) / 2) (s.length+1) 0 0 (by omega) (by omega)
def nbU (k_:Int→α) (s:Bytes):α:=
 bif DF true (ss s) then
  k_ (nK (65535 - (Zg s)))
 else jK
def rM (s:Bytes):Int:=nK (65535 - Zg s)
theorem nbT (k_:Int→α) (s:Bytes) (aF:ss s=true):nbU jK k_ s=k_ (rM s):=by
 have h:ss s=true:=aF
 unfold nbU rM
 simp only[h,nc,cond_true]
def ncn (k_:Bytes→α) (s:Bytes) (at_:Int) (part:Bytes):α:=
 let z0:Bytes:=zE s (nK (at_+(len part)))
 bif bif decide (at_<0) then true else decide (nK ((len s) - (len part))<at_) then k_ s
 else bif DF (DF (DF (DF true (okH s at_)) (oK (Rv s at_) part)) (okL s (nK (at_+(len part))))) (oK ((Rv s at_)++part) z0) then
   k_ (((Rv s at_)++part)++z0)
  else jK
def oE (s:Bytes) (at_:Int) (part:Bytes):Bool:=decide (s.length≤4294967296) && decide (part.length≤4294967296)
def pH (s:Bytes) (at_:Int) (part:Bytes):Bytes:=bif !(qB s at_ (len part)) then s else s.take at_.toNat++part++s.drop (at_.toNat+part.length)
theorem sT {s:Bytes} {at_:Int} {part:Bytes} (hs:s.length≤9223372036854775807):(pH s at_ part).length=s.length:=by
 unfold pH
 cases hw:qB s at_ (len part)
 ·rfl
 ·have:=(within_iff hs).1 hw
  simp only[len] at this
  simp only[Bool.not_true,cond_false,List.length_append,List.length_take,List.length_drop]
  omega
theorem npw (k_:Bytes→α) (s:Bytes) (at_:Int) (part:Bytes) (aF:oE s at_ part=true):ncn jK k_ s at_ part=k_ (pH s at_ part):=by
 simp only[oE,Bool.and_eq_true,decide_eq_true_eq] at aF
 unfold ncn pH
 have nzQ:(bif decide (at_<0) then true else decide (nK (len s - len part)<at_))= !(qB s at_ (len part)):=by
  have h1:=within_iff (s:=s) (at_:=at_) (n:=len part) (by omega)
  rw[nF (n:=len s - len part) (by simp only[len];omega) (by simp only[len];omega)]
  cases hw:qB s at_ (len part)
  ·by_cases h0:at_<0
   ·simp [h0]
   ·by_cases h2:len s - len part<at_
    ·simp [h0,h2]
    ·rw[h1.2 (by simp only[len] at h2 ⊢;omega)] at hw
     cases hw
  ·have:=h1.1 hw
   simp [show ¬at_<0 by omega,show ¬len s - len part<at_ by omega]
 rw[nzQ]
 refine pj (fun _=>rfl) (fun hg=> ?_)
 have hw:=(within_iff (by omega)).1 (show qB s at_ (len part)=true by simpa using hg)
 have e1:nK (at_+len part)=at_+len part:=by simp only[len] at hw ⊢;exact nF (by omega) (by omega)
 have e2:Rv s at_=s.take at_.toNat:=by simp [Rv]
 have e3:zE s (at_+len part)=s.drop (at_.toNat+part.length):=by
  simp only[zE,List.take_length,len]
  congr 1
  omega
 have g1:okH s at_=true:=by simp only[len] at hw;simp only[okH,Bool.and_eq_true,decide_eq_true_eq];omega
 have g2:okL s (at_+len part)=true:=by simp only[len] at hw ⊢;simp only[okL,Bool.and_eq_true,decide_eq_true_eq];omega
 have g3:oK (s.take at_.toNat) part=true:=by simp only[oK,List.length_take,decide_eq_true_eq];omega
 have g4:oK (s.take at_.toNat++part) (s.drop (at_.toNat+part.length))=true:=by simp only[oK,List.length_append,List.length_take,List.length_drop,decide_eq_true_eq];omega
 simp only[e1,e2,e3,g1,g2,g3,g4,nc,cond_true]
def ndQ (k_:Bytes→α) (s:Bytes) (at_:Int) (part:Bytes):α:=
 let z0:Bytes:=zE s (nK (at_+(len part)))
 bif !(qB s at_ (len part)) then k_ s
 else bif DF (DF (DF (DF true (okH s at_)) (oK (Rv s at_) part)) (okL s (nK (at_+(len part))))) (oK ((Rv s at_)++part) z0) then
   k_ (((Rv s at_)++part)++z0)
  else jK
theorem nrk (k_:Bytes→α) (s:Bytes) (at_:Int) (part:Bytes) (aF:oE s at_ part=true):ndQ jK k_ s at_ part=k_ (pH s at_ part):=by
 simp only[oE,Bool.and_eq_true,decide_eq_true_eq] at aF
 unfold ndQ pH
 refine pj (fun _=>rfl) (fun hg=> ?_)
 have hw:=(within_iff (by omega)).1 (show qB s at_ (len part)=true by simpa using hg)
 have e1:nK (at_+len part)=at_+len part:=by simp only[len] at hw ⊢;exact nF (by omega) (by omega)
 have e2:Rv s at_=s.take at_.toNat:=by simp [Rv]
 have e3:zE s (at_+len part)=s.drop (at_.toNat+part.length):=by
  simp only[zE,List.take_length,len]
  congr 1
  omega
 have g1:okH s at_=true:=by simp only[len] at hw;simp only[okH,Bool.and_eq_true,decide_eq_true_eq];omega
 have g2:okL s (at_+len part)=true:=by simp only[len] at hw ⊢;simp only[okL,Bool.and_eq_true,decide_eq_true_eq];omega
 have g3:oK (s.take at_.toNat) part=true:=by simp only[oK,List.length_take,decide_eq_true_eq];omega
 have g4:oK (s.take at_.toNat++part) (s.drop (at_.toNat+part.length))=true:=by simp only[oK,List.length_append,List.length_take,List.length_drop,decide_eq_true_eq];omega
 simp only[e1,e2,e3,g1,g2,g3,g4,nc,cond_true]
def Uo (k_:Bytes→Bool→α) (src dst kind length:Int):α:=
 let z0:Bytes:=((qb src)++(qb dst))++(toStr ([[.int 0],[.int (IntKind.wrap .u8 kind)]]))
 bif bif !(nf src 0 4294967295) then true else bif !(nf dst 0 4294967295) then true else bif !(nf kind 0 255) then true else !(nf length 0 65535) then k_ [] false
 else bif DF (DF (DF true (oK (qb src) (qb dst))) (oK ((qb src)++(qb dst)) (toStr ([[.int 0],[.int (IntKind.wrap .u8 kind)]])))) (oK z0 (nO length)) then
   k_ (z0++(nO length)) true
  else jK
def pz (src dst kind length:Int):Bytes×Bool:=
 bif bif !(nf src 0 4294967295) then true else bif !(nf dst 0 4294967295) then true else bif !(nf kind 0 255) then true else !(nf length 0 65535) then ([],false)
 else (qb src++qb dst++toStr ([[.int 0],[.int (IntKind.wrap .u8 kind)]])++nO length,true)
theorem RJ (src dst kind length:Int):(pz src dst kind length).1.length≤12:=by
 have a:=qU src
 have b:=qU dst
 have c:=oq length
 unfold pz
 cases (bif !(nf src 0 4294967295) then true else bif !(nf dst 0 4294967295) then true else bif !(nf kind 0 255) then true else !(nf length 0 65535))
 ·simp only[cond_false,List.length_append,qZ,List.length_cons,List.length_nil]
  omega
 ·exact Nat.zero_le _
theorem Um (k_:Bytes→Bool→α) (src dst kind length:Int):Uo jK k_ src dst kind length=k_ (pz src dst kind length).1 (pz src dst kind length).2:=by
 have a:=qU src
 have b:=qU dst
 have c:=oq length
 have g1:oK (qb src) (qb dst)=true:=Pm (by omega)
 have g2:∀r,oK (qb src++qb dst) (toStr [[.int 0],r])=true:=fun r=>Pm (by simp only[List.length_append,qZ,List.length_cons,List.length_nil];omega)
 have g3:∀r,oK (qb src++qb dst++toStr [[.int 0],r]) (nO length)=true:=fun r=>Pm (by simp only[List.length_append,qZ,List.length_cons,List.length_nil];omega)
 unfold Uo pz
 simp only[g1,g2,g3,nc,cond_true]
 exact Jk (K:=fun r:Bytes×Bool=>k_ r.1 r.2) rfl rfl
def TK {α:Type} (k_:Int→α) (kind:Int):α:=
 bif kind==6 then k_ 16
 else k_ 6
def p_ (kind:Int):Int:=TK id kind
theorem npV {α:Type} (k_:Int→α) (kind:Int):TK k_ kind=k_ (p_ kind):=by
 exact Jk rfl rfl
def VI (k_:Bytes→α) (g:nz):α:=
 let z0:Bytes:=(nO g.oX)++(nO g.oW)
 let z1:Bytes:=z0++(qb g.Seq)
 let z2:Bytes:=z1++(qb g.Ack)
 let z3:Bytes:=z2++(toStr ([[.int 80],[.int (IntKind.wrap .u8 g.Flags)]]))
 let z4:Bytes:=z3++(nO g.uE)
 let z5:Bytes:=z4++(nO 0)
 let z6:Bytes:=z5++(nO 0)
 let z7:Bytes:=nO (nK (8+(len g.Body)))
 let z8:Bytes:=z0++z7
 let z9:Bytes:=z8++(nO 0)
 bif DF true (oK (nO g.oX) (nO g.oW)) then
  bif g.Kind==6 then
   bif DF (DF (DF (DF (DF (DF (DF true (oK z0 (qb g.Seq))) (oK z1 (qb g.Ack))) (oK z2 (toStr ([[.int 80],[.int (IntKind.wrap .u8 g.Flags)]])))) (oK z3 (nO g.uE))) (oK z4 (nO 0))) (oK z5 (nO 0))) (oK z6 g.Body) then
    k_ (z6++g.Body)
   else jK
  else bif DF (DF (DF true (oK z0 z7)) (oK z8 (nO 0))) (oK z9 g.Body) then
    k_ (z9++g.Body)
   else jK
 else jK
def nbE (q:nz):Bytes:=bif q.Kind==6 then nO q.oX++nO q.oW++qb q.Seq++qb q.Ack++toStr ([[.int 80],[.int (IntKind.wrap .u8 q.Flags)]])++nO q.uE++nO 0++nO 0
 else nO q.oX++nO q.oW++nO (nK (8+(len q.Body)))++nO 0
def pf (q:nz):Bytes:=nbE q++q.Body
def nvV (q:nz):Bool:=decide (q.Body.length≤1000)
theorem no2 (q:nz):(nbE q).length≤20:=by
 have a:=oq q.oX
 have b:=oq q.oW
 have c:=qU q.Seq
 have d:=qU q.Ack
 have e:=oq q.uE
 have f:=oq 0
 have h:=oq (nK (8+(len q.Body)))
 unfold nbE
 cases q.Kind==6
 ·simp only[cond_false,List.length_append];omega
 ·simp only[cond_true,List.length_append,qZ,List.length_cons,List.length_nil];omega
theorem nbR (q:nz):(pf q).length≤q.Body.length+20:=by
 have:=no2 q
 simp only[pf,List.length_append]
 omega
theorem njf (k_:Bytes→α) (g:nz) (aF:nvV g=true):VI jK k_ g=k_ (pf g):=by
 have hb:g.Body.length≤1000:=of_decide_eq_true aF
 have a:=oq g.oX
 have b:=oq g.oW
 have c:=qU g.Seq
 have d:=qU g.Ack
 have e:=oq g.uE
 have f:=oq 0
 have f4:=qU 0
 have hh:=oq (nK (8+(len g.Body)))
 unfold VI pf nbE
 refine pn (by simp only[fT,oK,ss,List.length_append,qZ,List.length_cons,List.length_nil,decide_eq_true_eq,true_and,and_true];omega) ?_
 cases g.Kind==6
 ·simp only[cond_false]
  refine pn (by simp only[fT,oK,ss,List.length_append,qZ,List.length_cons,List.length_nil,decide_eq_true_eq,true_and,and_true];omega) ?_
  rfl
 ·simp only[cond_true]
  refine pn (by simp only[fT,oK,ss,List.length_append,qZ,List.length_cons,List.length_nil,decide_eq_true_eq,true_and,and_true];omega) ?_
  rfl
def Ud (k_:Bytes→Bool→α) (src dst:Int) (g:nz):α:=
 let z0:Bytes×Bool:=pz src dst g.Kind (len (pf g))
 let z1:Bytes:=z0.1++(pf g)
 let z2:Int:=rM z1
 let z3:Bytes:=nO (bif bif g.Kind==17 then z2==0 else false then 65535 else z2)
 bif !(sd g) then k_ [] false
 else bif DF true (nvV g) then
   bif !z0.2 then k_ [] false
   else bif DF (DF true (oK z0.1 (pf g))) (ss z1) then
     bif DF true (oE (pf g) (p_ g.Kind) z3) then
      k_ (pH (pf g) (p_ g.Kind) z3) true
     else jK
    else jK
  else jK
theorem YH (kind:Int):p_ kind=bif kind==6 then 16 else 6:=by
 unfold p_ TK
 cases kind==6<;>rfl
def nog (src dst:Int) (g:nz):Int:=rM ((pz src dst g.Kind (len (pf g))).1++pf g)
def rm (src dst:Int) (g:nz):Bytes×Bool:=
 bif !(sd g) then ([],false) else bif !(pz src dst g.Kind (len (pf g))).2 then ([],false)
 else (pH (pf g) (p_ g.Kind) (nO (bif bif g.Kind==17 then nog src dst g==0 else false then 65535 else nog src dst g)),true)
theorem ng4 (k_:Bytes→Bool→α) (src dst:Int) (g:nz):Ud jK k_ src dst g=k_ (rm src dst g).1 (rm src dst g).2:=by
 unfold Ud rm
 refine pj (K:=fun r:Bytes×Bool=>k_ r.1 r.2) (fun _=>rfl) (fun hg=> ?_)
 have hs:sd g=true:=by simpa using hg
 have a:=nwk hs
 have b:=nbR g
 have hp:=RJ src dst g.Kind (len (pf g))
 have g1:nvV g=true:=decide_eq_true (by omega)
 have g2:oK (pz src dst g.Kind (len (pf g))).1 (pf g)=true:=Pm (by omega)
 have g3:∀v,oE (pf g) (p_ g.Kind) (nO v)=true:=fun v=>by
  have:=oq v
  simp only[oE,Bool.and_eq_true,decide_eq_true_eq];omega
 have g4:ss ((pz src dst g.Kind (len (pf g))).1++pf g)=true:=decide_eq_true (by rw[List.length_append];omega)
 simp only[g1,g2,g3,g4,nc,cond_true]
 exact Jk (K:=fun r:Bytes×Bool=>k_ r.1 r.2) rfl rfl
def UQ (k_:Bytes→Bool→α) (src dst:Int) (g:nz):α:=
 let z0:Bytes:=(nO g.oX)++(nO g.oW)
 let z1:Bytes:=z0++(qb g.Seq)
 let z2:Bytes:=z1++(qb g.Ack)
 let z3:Bytes:=z2++(toStr ([[.int 80],[.int (IntKind.wrap .u8 g.Flags)]]))
 let z4:Bytes:=z3++(nO g.uE)
 let z5:Bytes:=nO (nK (8+(len g.Body)))
 let z6:Bytes:=z0++z5
 let z7:Bytes:=bif g.Kind==6 then z4++(qb 0) else z6++(nO 0)
 let z8:Bytes:=z7++g.Body
 let z9:Bytes×Bool:=pz src dst g.Kind (len z8)
 let z10:Bytes:=z9.1
 let z11:Bytes:=z10++z8
 let z12:Int:=bif g.Kind==6 then 16 else 6
 let z13:Int:=rM z11
 let z14:Bytes:=nO (bif bif z13==0 then g.Kind==17 else false then 65535 else z13)
 bif !(sd g) then k_ [] false
 else bif DF true (oK (nO g.oX) (nO g.oW)) then
   bif KW (g.Kind==6) (DF (DF (DF (DF (DF true (oK z0 (qb g.Seq))) (oK z1 (qb g.Ack))) (oK z2 (toStr ([[.int 80],[.int (IntKind.wrap .u8 g.Flags)]])))) (oK z3 (nO g.uE))) (oK z4 (qb 0))) (DF (DF true (oK z0 z5)) (oK z6 (nO 0))) then
    bif DF true (oK z7 g.Body) then
     bif !z9.2 then k_ [] false
     else bif DF (DF true (oK z10 z8)) (ss z11) then
       bif DF true (oE z8 z12 z14) then
        k_ (pH z8 z12 z14) true
       else jK
      else jK
    else jK
   else jK
  else jK
theorem nhF (k_:Bytes→Bool→α) (src dst:Int) (g:nz):UQ jK k_ src dst g=k_ (rm src dst g).1 (rm src dst g).2:=by
 unfold UQ rm
 refine pj (K:=fun r:Bytes×Bool=>k_ r.1 r.2) (fun _=>rfl) (fun hg=> ?_)
 have hs:sd g=true:=by simpa using hg
 have ha:=nwk hs
 have hb:=nbR g
 have hp:=RJ src dst g.Kind (len (pf g))
 have a:=oq g.oX
 have b:=oq g.oW
 have c:=qU g.Seq
 have d:=qU g.Ack
 have e:=oq g.uE
 have f:=oq 0
 have f4:=qU 0
 have hh:=oq (nK (8+(len g.Body)))
 have e0:qb 0=nO 0++nO 0:=by unfold qb nO Oa wN;rfl
 have eh:(bif g.Kind==6 then nO g.oX++nO g.oW++qb g.Seq++qb g.Ack++toStr ([[.int 80],[.int (IntKind.wrap .u8 g.Flags)]])++nO g.uE++qb 0 else nO g.oX++nO g.oW++nO (nK (8+(len g.Body)))++nO 0)=nbE g:=by
  unfold nbE
  cases g.Kind==6
  ·rfl
  ·simp only[cond_true,e0,List.append_assoc]
 refine pn (by simp only[fT,oK,ss,List.length_append,qZ,List.length_cons,List.length_nil,decide_eq_true_eq,true_and,and_true];omega) ?_
 refine pn (naT (fun _=>(by simp only[fT,oK,ss,List.length_append,qZ,List.length_cons,List.length_nil,decide_eq_true_eq,true_and,and_true];omega)) (fun _=>(by simp only[fT,oK,ss,List.length_append,qZ,List.length_cons,List.length_nil,decide_eq_true_eq,true_and,and_true];omega))) ?_
 rw[eh]
 have Df:=no2 g
 refine pn (by simp only[fT,oK,ss,List.length_append,qZ,List.length_cons,List.length_nil,decide_eq_true_eq,true_and,and_true];omega) ?_
 have eb:nbE g++g.Body=pf g:=rfl
 rw[eb]
 have es:(bif g.Kind==6 then (16:Int) else 6)=p_ g.Kind:=(YH _).symm
 have g2:oK (pz src dst g.Kind (len (pf g))).1 (pf g)=true:=Pm (by omega)
 have g3:∀v,oE (pf g) (p_ g.Kind) (nO v)=true:=fun v=>by
  have:=oq v
  simp only[oE,Bool.and_eq_true,decide_eq_true_eq];omega
 have ez:(bif nog src dst g==0 then g.Kind==17 else false)=(bif g.Kind==17 then nog src dst g==0 else false):=by
  cases nog src dst g==0<;>cases g.Kind==17<;>rfl
 have es2:rM ((pz src dst g.Kind (len (pf g))).1++pf g)=nog src dst g:=rfl
 have g4:ss ((pz src dst g.Kind (len (pf g))).1++pf g)=true:=decide_eq_true (by rw[List.length_append];omega)
 simp only[es,es2,ez,g2,g3,g4,nc,cond_true]
 exact Jk (K:=fun r:Bytes×Bool=>k_ r.1 r.2) rfl rfl
def neK {α:Type} (k_:Bool→α) (d:wV):α:=
 k_ (bif nf d.Tos 0 255 then bif nf d.Ttl 0 255 then bif nf d.noL 0 255 then bif nf d.Id 0 65535 then bif nf d.Src 0 4294967295 then bif nf d.Ua 0 4294967295 then decide (len d.Body≤380) else false else false else false else false else false else false)
def nvO (d:wV):Bool:=neK id d
theorem noP {α:Type} (k_:Bool→α) (d:wV):neK k_ d=k_ (nvO d):=by
 rfl
def ncb (k_:Bytes→Bool→α) (d:wV):α:=
 let z0:Bytes:=nO (nK (20+(len d.Body)))
 let z1:Bytes:=(toStr ([[.int 69],[.int (IntKind.wrap .u8 d.Tos)]]))++z0
 let z2:Bytes:=z1++(nO d.Id)
 let z3:Bytes:=z2++(nO 16384)
 let z4:Bytes:=z3++(toStr ([[.int (IntKind.wrap .u8 d.Ttl)],[.int (IntKind.wrap .u8 d.noL)]]))
 let z5:Bytes:=z4++(nO 0)
 let z6:Bytes:=z5++(qb d.Src)
 let z7:Bytes:=z6++(qb d.Ua)
 let z8:Bytes:=nO (rM z7)
 bif !(nvO d) then k_ [] false
 else bif DF (DF (DF (DF (DF (DF (DF true (oK (toStr ([[.int 69],[.int (IntKind.wrap .u8 d.Tos)]])) z0)) (oK z1 (nO d.Id))) (oK z2 (nO 16384))) (oK z3 (toStr ([[.int (IntKind.wrap .u8 d.Ttl)],[.int (IntKind.wrap .u8 d.noL)]])))) (oK z4 (nO 0))) (oK z5 (qb d.Src))) (oK z6 (qb d.Ua)) then
   bif DF (DF true (ss z7)) (oE z7 10 z8) then
    k_ (pH z7 10 z8) true
   else jK
  else jK
def ipz (d:wV):Bytes:=toStr ([[.int 69],[.int (IntKind.wrap .u8 d.Tos)]])++nO (nK (20+(len d.Body)))++nO d.Id++nO 16384++toStr ([[.int (IntKind.wrap .u8 d.Ttl)],[.int (IntKind.wrap .u8 d.noL)]])++nO 0++qb d.Src++qb d.Ua
theorem nxJ (d:wV):(ipz d).length≤20:=by
 have a:=oq (nK (20+(len d.Body)))
 have b:=oq d.Id
 have c:=oq 16384
 have e:=oq 0
 have f:=qU d.Src
 have h:=qU d.Ua
 simp only[ipz,List.length_append,qZ,List.length_cons,List.length_nil]
 omega
def vk (d:wV):Bytes×Bool:=bif !(nvO d) then ([],false) else (pH (ipz d) 10 (nO (rM (ipz d))),true)
theorem nwF {d:wV} (h:nvO d=true):d.Body.length≤380:=by
 unfold nvO neK at h
 by_cases h3:len d.Body≤380
 ·simp only[len] at h3
  omega
 ·rw[decide_eq_false h3] at h
  revert h
  cases nf d.Tos 0 255<;>cases nf d.Ttl 0 255<;>cases nf d.noL 0 255<;>cases nf d.Id 0 65535<;>cases nf d.Src 0 4294967295<;>cases nf d.Ua 0 4294967295<;>simp
theorem nkk (d:wV):(vk d).1.length≤20:=by
 unfold vk
 cases nvO d
 ·exact Nat.zero_le _
 ·have:=nxJ d
  simp only[Bool.not_true,cond_false]
  rw[sT (by omega)]
  exact this
theorem noK {d:wV} (h:(vk d).2=true):nvO d=true:=by
 unfold vk at h
 cases hi:nvO d
 ·rw[hi] at h;cases h
 ·rfl
theorem nca (k_:Bytes→Bool→α) (d:wV):ncb jK k_ d=k_ (vk d).1 (vk d).2:=by
 have a:=oq (nK (20+(len d.Body)))
 have b:=oq d.Id
 have c:=oq 16384
 have e:=oq 0
 have f:=qU d.Src
 have h:=qU d.Ua
 unfold ncb vk
 refine pj (K:=fun r:Bytes×Bool=>k_ r.1 r.2) (fun _=>rfl) (fun hg=> ?_)
 refine pn (by simp only[fT,oK,ss,List.length_append,qZ,List.length_cons,List.length_nil,decide_eq_true_eq,true_and,and_true];omega) ?_
 have hz:=nxJ d
 have g3:∀v,oE (ipz d) 10 (nO v)=true:=fun v=>by
  have:=oq v
  simp only[oE,Bool.and_eq_true,decide_eq_true_eq];omega
 have g4:ss (ipz d)=true:=decide_eq_true (by omega)
 refine pn ?_ rfl
 rw[fT,fT]
 exact⟨⟨rfl,g4⟩,g3 _⟩
def neD (k_:Bytes→Bool→α) (d:wV):α:=
 bif !((vk d).2) then k_ [] false
 else bif DF true (oK ((vk d).1) d.Body) then
   k_ (((vk d).1)++d.Body) true
  else jK
def Ov (d:wV):Bytes×Bool:=bif !(vk d).2 then ([],false) else ((vk d).1++d.Body,true)
theorem nwE (d:wV):(Ov d).1.length≤400:=by
 unfold Ov
 cases h:(vk d).2
 ·exact Nat.zero_le _
 ·have h1:=nwF (noK h)
  have h2:=nkk d
  simp only[Bool.not_true,cond_false,List.length_append]
  omega
theorem neB (k_:Bytes→Bool→α) (d:wV):neD jK k_ d=k_ (Ov d).1 (Ov d).2:=by
 unfold neD Ov
 refine pj (K:=fun r:Bytes×Bool=>k_ r.1 r.2) (fun _=>rfl) (fun hg=> ?_)
 have h1:=nwF (noK (d:=d) (by simpa using hg))
 have h2:=nkk d
 refine pn (by simp only[fT,oK,ss,List.length_append,qZ,List.length_cons,List.length_nil,decide_eq_true_eq,true_and,and_true];omega) rfl
def neL (k_:Bytes→α) (s:Bytes):α:=
 let z0:Bytes:=nl7 0 (nK (46 - (len s)))
 bif decide (46≤len s) then k_ s
 else bif DF (DF true (ng1 0 (nK (46 - (len s))))) (oK s z0) then
   k_ (s++z0)
  else jK
def Ss (s:Bytes):Bytes:=bif decide (46≤len s) then s else s++OO (46 - len s) 0
theorem nwG {s:Bytes} {n:Nat} (h:s.length≤n) (h46:46≤n):46≤(Ss s).length∧(Ss s).length≤n:=by
 unfold Ss
 by_cases hc:46≤len s
 ·simp only[decide_eq_true hc,cond_true]
  simp only[len] at hc
  omega
 ·simp only[decide_eq_false hc,cond_false,List.length_append,OO,List.length_replicate]
  simp only[len] at hc ⊢
  omega
theorem nsf (k_:Bytes→α) (s:Bytes) (xw:Gk .str (.str s)):neL jK k_ s=k_ (Ss s):=by
 have hl:=xv xw
 have hl0:0≤len s:=by simp [len]
 have F1:len s≤9223372036854775807:=by simp only[len];omega
 unfold neL Ss
 by_cases h:46≤len s
 ·have h2:¬len s<46:=by omega
  simp only[h,h2,decide_true,decide_false,cond_true,cond_false]
 ·have h2:len s<46:=by omega
  have e:nK (46 - len s)=46 - len s:=nF (by omega) (by omega)
  have o1:RR (46 - len s) 0=true:=n0.2 (by omega)
  have o2:oK s (OO (46 - len s) 0)=true:=Pm (by simp only[OO,List.length_replicate,len] at*;omega)
  simp only[h,h2,decide_true,decide_false,cond_true,cond_false,e,ng1,nl7,o1,o2,nc]
def nf4 (k_:Bytes→α) (s:Bytes):α:=
 let z0:Bytes:=OO (nK (46 - (len s))) 0
 bif decide (len s<46) then
  bif DF (DF true (RR (nK (46 - (len s))) 0)) (oK s z0) then
   k_ (s++z0)
  else jK
 else k_ s
theorem ntC (k_:Bytes→α) (s:Bytes) (xw:Gk .str (.str s)):nf4 jK k_ s=k_ (Ss s):=by
 have hl:=xv xw
 have hl0:0≤len s:=by simp [len]
 have F1:len s≤9223372036854775807:=by simp only[len];omega
 unfold nf4 Ss
 by_cases h:46≤len s
 ·have h2:¬len s<46:=by omega
  simp only[h,h2,decide_true,decide_false,cond_true,cond_false]
 ·have h2:len s<46:=by omega
  have e:nK (46 - len s)=46 - len s:=nF (by omega) (by omega)
  have o1:RR (46 - len s) 0=true:=n0.2 (by omega)
  have o2:oK s (OO (46 - len s) 0)=true:=Pm (by simp only[OO,List.length_replicate,len] at*;omega)
  simp only[h,h2,decide_true,decide_false,cond_true,cond_false,e,o1,o2,nc]
def xG {α:Type} (k_:Bool→α) (e:qI):α:=
 k_ (bif nf e.Ua 0 281474976710655 then bif nf e.Src 0 281474976710655 then bif nf e.sO (-1) 4095 then bif nf e.zh 1536 65535 then bif e.zh != 33024 then nf (len e.Body) 46 400 else false else false else false else false else false)
def vP (e:qI):Bool:=xG id e
theorem nkw {α:Type} (k_:Bool→α) (e:qI):xG k_ e=k_ (vP e):=by
 rfl
def ncP (k_:Bytes→α) (a:Int):α:=
 bif DF true (oK (nO (So .i64 a 32)) (qb (bits .and .i64 a 4294967295))) then
  k_ ((nO (So .i64 a 32))++(qb (bits .and .i64 a 4294967295)))
 else jK
def pb (a:Int):Bytes:=nO (So .i64 a 32)++qb (bits .and .i64 a 4294967295)
theorem Nj (x:Int):(pb x).length≤6:=by
 have a:=oq (So .i64 x 32)
 have b:=qU (bits .and .i64 x 4294967295)
 simp only[pb,List.length_append]
 omega
theorem ncO (k_:Bytes→α) (a:Int):ncP jK k_ a=k_ (pb a):=by
 have q1:=oq (So .i64 a 32)
 have q2:=qU (bits .and .i64 a 4294967295)
 unfold ncP pb
 refine pn (by simp only[fT,oK,ss,List.length_append,qZ,List.length_cons,List.length_nil,decide_eq_true_eq,true_and,and_true];omega) rfl
def nbS (k_:Bytes→Bool→α) (e:qI):α:=
 let z0:Bytes:=(pb e.Ua)++(pb e.Src)
 let z1:Bytes:=(nO 33024)++(nO e.sO)
 let z2:Bytes:=bif decide (0≤e.sO) then z0++z1 else z0
 let z3:Bytes:=z2++(nO e.zh)
 bif !(vP e) then k_ [] false
 else bif DF true (oK (pb e.Ua) (pb e.Src)) then
   bif KW (decide (0≤e.sO)) (DF (DF true (oK (nO 33024) (nO e.sO))) (oK z0 z1)) true then
    bif DF (DF true (oK z2 (nO e.zh))) (oK z3 e.Body) then
     k_ (z3++e.Body) true
    else jK
   else jK
  else jK
def PY (e:qI):Bytes:=bif decide (0≤e.sO) then pb e.Ua++pb e.Src++(nO 33024++nO e.sO) else pb e.Ua++pb e.Src
def v_ (e:qI):Bytes×Bool:=bif !(vP e) then ([],false) else (PY e++nO e.zh++e.Body,true)
theorem nev (e:qI):(PY e).length≤16:=by
 have a:=Nj e.Ua
 have b:=Nj e.Src
 have c:=oq 33024
 have d:=oq e.sO
 unfold PY
 cases decide (0≤e.sO)
 ·simp only[cond_false,List.length_append];omega
 ·simp only[cond_true,List.length_append];omega
theorem nmA {e:qI} (h:vP e=true):e.Body.length≤400:=by
 unfold vP xG at h
 cases hb:nf (len e.Body) 46 400
 ·rw[hb] at h
  revert h
  cases nf e.Ua 0 281474976710655<;>cases nf e.Src 0 281474976710655<;>cases nf e.sO (-1) 4095<;>cases nf e.zh 1536 65535<;>cases e.zh != 33024<;>simp
 ·have:=n0.1 hb
  simp only[len] at this
  omega
theorem nvN (e:qI):(v_ e).1.length≤420:=by
 unfold v_
 cases h:vP e
 ·exact Nat.zero_le _
 ·have h1:=nmA h
  have h2:=nev e
  have h3:=oq e.zh
  simp only[Bool.not_true,cond_false,List.length_append]
  omega
theorem npd (k_:Bytes→Bool→α) (e:qI):nbS jK k_ e=k_ (v_ e).1 (v_ e).2:=by
 have a:=Nj e.Ua
 have b:=Nj e.Src
 have c:=oq 33024
 have d:=oq e.sO
 have f:=oq e.zh
 unfold nbS v_
 refine pj (K:=fun r:Bytes×Bool=>k_ r.1 r.2) (fun _=>rfl) (fun hg=> ?_)
 have hb:=nmA (e:=e) (by simpa using hg)
 refine pn (by simp only[fT,oK,ss,List.length_append,qZ,List.length_cons,List.length_nil,decide_eq_true_eq,true_and,and_true];omega) ?_
 refine pn (naT (fun _=>(by simp only[fT,oK,ss,List.length_append,qZ,List.length_cons,List.length_nil,decide_eq_true_eq,true_and,and_true];omega)) (fun _=>rfl)) ?_
 have eh:(bif decide (0≤e.sO) then pb e.Ua++pb e.Src++(nO 33024++nO e.sO) else pb e.Ua++pb e.Src)=PY e:=rfl
 rw[eh]
 have hh:=nev e
 refine pn (by simp only[fT,oK,ss,List.length_append,qZ,List.length_cons,List.length_nil,decide_eq_true_eq,true_and,and_true];omega) rfl
def ndt (k_:Bytes→Bool→α) (e:qI):α:=
 let z0:Bytes:=(pb e.Ua)++(pb e.Src)
 let z1:Bytes:=z0++(nO 33024)
 let z2:Bytes:=bif decide (0≤e.sO) then z1++(nO e.sO) else z0
 let z3:Bytes:=z2++(nO e.zh)
 bif !(vP e) then k_ [] false
 else bif DF true (oK (pb e.Ua) (pb e.Src)) then
   bif KW (decide (0≤e.sO)) (DF (DF true (oK z0 (nO 33024))) (oK z1 (nO e.sO))) true then
    bif DF (DF true (oK z2 (nO e.zh))) (oK z3 e.Body) then
     k_ (z3++e.Body) true
    else jK
   else jK
  else jK
theorem nq2 (k_:Bytes→Bool→α) (e:qI):ndt jK k_ e=k_ (v_ e).1 (v_ e).2:=by
 have a:=Nj e.Ua
 have b:=Nj e.Src
 have c:=oq 33024
 have d:=oq e.sO
 have f:=oq e.zh
 unfold ndt v_
 refine pj (K:=fun r:Bytes×Bool=>k_ r.1 r.2) (fun _=>rfl) (fun hg=> ?_)
 have hb:=nmA (e:=e) (by simpa using hg)
 refine pn (by simp only[fT,oK,ss,List.length_append,qZ,List.length_cons,List.length_nil,decide_eq_true_eq,true_and,and_true];omega) ?_
 refine pn (naT (fun _=>(by simp only[fT,oK,ss,List.length_append,qZ,List.length_cons,List.length_nil,decide_eq_true_eq,true_and,and_true];omega)) (fun _=>rfl)) ?_
 have eh:(bif decide (0≤e.sO) then pb e.Ua++pb e.Src++nO 33024++nO e.sO else pb e.Ua++pb e.Src)=PY e:=by
  unfold PY
  cases decide (0≤e.sO)
  ·rfl
  ·simp only[cond_true,List.append_assoc]
 rw[eh]
 have hh:=nev e
 refine pn (by simp only[fT,oK,ss,List.length_append,qZ,List.length_cons,List.length_nil,decide_eq_true_eq,true_and,and_true];omega) rfl
def Xo {α:Type} (k_:Bytes→Bool→α) (p:nk):α:=
 let z0:Bytes×Bool:=v_ (⟨p.xe,p.xf,p.sO,2048,Ss ((Ov (⟨p.Tos,p.Id,p.Ttl,p.rZ.Kind,p.qC,p.rl,(rm p.qC p.rl p.rZ).1⟩:wV)).1)⟩:qI)
 bif !(rA p) then k_ [] false
 else k_ z0.1 z0.2
def qo (p:nk):qI:=(⟨p.xe,p.xf,p.sO,2048,Ss (Ov (⟨p.Tos,p.Id,p.Ttl,p.rZ.Kind,p.qC,p.rl,(rm p.qC p.rl p.rZ).1⟩:wV)).1⟩:qI)
def nU (p:nk):Bytes×Bool:=bif !(rA p) then ([],false) else v_ (qo p)
theorem ze (p:nk):(nU p).1.length≤420:=by
 unfold nU
 cases rA p
 ·exact Nat.zero_le _
 ·exact nvN _
theorem Xn {α:Type} (k_:Bytes→Bool→α) (p:nk):Xo k_ p=k_ (nU p).1 (nU p).2:=by
 unfold Xo nU
 exact Jk (K:=fun r:Bytes×Bool=>k_ r.1 r.2) rfl rfl
def Tz {α:Type} (k_:Bool→α) (p:nk):α:=
 k_ (bif rA p then decide (len p.rZ.Body≤128) else false)
def Ve (p:nk):Bool:=Tz id p
theorem ncf {α:Type} (k_:Bool→α) (p:nk):Tz k_ p=k_ (Ve p):=by
 rfl
theorem niY (p:Nat→List DC→Bool):∀(l:Rows) (s:Nat),qQ p l s=true↔∃i,i<l.length∧p (s+i) (nth l i)=true
 | [],s=>by simp [qQ]
 | r::l,s=>by
  unfold qQ
  cases hp:p s r
  ·simp only[cond_false,niY p l (s+1)]
   constructor
   ·rintro ⟨i,h1,h2⟩
    refine⟨i+1,by simp;omega, ?_⟩
    rw[show s+(i+1)=s+1+i by omega]
    exact h2
   ·rintro ⟨i,h1,h2⟩
    cases i with
    | zero=>exfalso;rw[show nth (r::l) 0=r from rfl,Nat.add_zero,hp] at h2;cases h2
    | succ i=>
     refine⟨i,by simp only[List.length_cons] at h1;omega, ?_⟩
     rw[show s+1+i=s+(i+1) by omega]
     exact h2
  ·simp only[cond_true,true_iff]
   exact⟨0,by simp,hp⟩
theorem nvx {p:Nat→List DC→Bool} {l:Rows} {s:Nat} (h:qQ p l s=false):∀i,i<l.length→p (s+i) (nth l i)=false:=by
 intro i hi
 cases hp:p (s+i) (nth l i)
 ·rfl
 ·rw[(niY p l s).2 ⟨i,hi,hp⟩] at h
  cases h
theorem Qb (p:Nat→List DC→Bool):∀(l:Rows) (s:Nat),(findIdx p l s= -1∧∀i,i<l.length→p (s+i) (nth l i)=false)∨∃i,i<l.length∧findIdx p l s=((s+i:Nat):Int)∧p (s+i) (nth l i)=true
 | [],s=> .inl ⟨rfl,by simp⟩
 | r::l,s=>by
  unfold findIdx
  cases hp:p s r
  ·rcases Qb p l (s+1) with ⟨h1,h2⟩ | ⟨i,h1,h2,h3⟩
   ·refine .inl ⟨h1,fun i hi=> ?_⟩
    cases i with
    | zero=>exact hp
    | succ i=>
     rw[show s+(i+1)=s+1+i by omega]
     exact h2 i (by simp only[List.length_cons] at hi;omega)
   ·refine .inr ⟨i+1,by simp;omega, ?_, ?_⟩
    ·rw[cond_false,h2,show s+(i+1)=s+1+i by omega]
    ·rw[show s+(i+1)=s+1+i by omega]
     exact h3
  ·exact .inr ⟨0,by simp,rfl,hp⟩
theorem nmx {x m:Int} (h0:0≤x) (hm:0<m):0≤Int.tmod x m∧Int.tmod x m<m:=⟨Int.tmod_nonneg _ h0,Int.tmod_lt_of_pos _ hm⟩
theorem nyx (a b:Bool):(bif a then b else false)=true↔a=true∧b=true:=by cases a<;>cases b<;>simp
theorem nvU {p:Nat→List DC→Bool} {l:Rows} (h:∀i,i<l.length→p i (nth l i)=false):qQ p l 0=false:=by
 cases ha:qQ p l 0
 ·rfl
 ·obtain⟨i,hi,h2⟩:=(niY p l 0).1 ha
  rw[Nat.zero_add,h i hi] at h2
  cases h2
theorem nxE {p:Nat→Bool} :∀ {m i:Nat},zi p m i=false→∀j,i≤j→j<i+m→p j=false
 | 0,_,_,j,h1,h2=>by omega
 | m+1,i,h,j,h1,h2=>by
  rw[zi] at h
  cases hp:p i
  ·rw[hp] at h
   by_cases hj:j=i
   ·rw[hj];exact hp
   ·exact nxE h j (by omega) (by omega)
  ·rw[hp] at h;cases h
theorem nr0 {p:Nat→List DC→Bool} :∀ {l:Rows} {s:Nat},qQ p l s=false→∀r∈l,∃i,p i r=false
 | [],_,_,r,h=>by simp at h
 | x::xs,s,h,r,hr=>by
  simp only[qQ] at h
  cases hp:p s x
  ·rw[hp] at h
   rcases List.mem_cons.1 hr with rfl | hr
   ·exact⟨s,hp⟩
   ·exact nr0 h r hr
  ·rw[hp] at h
   cases h
theorem Vd {l:Rows} (h:pC l=true):len l≤96∧∀r∈l,xV r=false:=by
 unfold pC at h
 by_cases h9:96<len l
 ·simp [h9] at h
 ·refine⟨by omega,fun r hr=> ?_⟩
  simp only[decide_eq_false h9,cond_false] at h
  cases ha:qQ (fun i r=>bif xV r then true else zi (fun j=>bif (rI (nth l j) 0)==(rI r 0) then (rI (nth l j) 1)==(rI r 1) else false) i 0) l 0
  ·obtain⟨i,hi⟩:=nr0 ha r hr
   cases hb:xV r
   ·rfl
   ·rw[hb] at hi
    cases hi
  ·rw[ha] at h
   cases h
def pgs (l:Rows):Prop:=∀i,i<l.length→∃p:Bytes,nth l i=[.str p]∧p.length=128
theorem nwg {l:Rows} (hw:Gk (.sl [.str]) (.sl l)) (h:qc (⟨l⟩:nd)=true):pgs l∧l.length≤64:=by
 unfold qc at h
 cases ha:qQ (fun _ r=>(len (rS r 0)) != 128) l 0
 ·rw[show qQ (fun _ r=>(len (rS r 0)) != 128) (⟨l⟩:nd).nV 0=false from ha] at h
  have hl:len l≤64:=of_decide_eq_true h
  refine⟨fun i hi=> ?_,by simp only[len] at hl;omega⟩
  obtain⟨_,hw⟩:=oy hw
  have h1:=nwj (hw (nth l i) (uB hi))
  have h2:=nvx ha i hi
  refine⟨rS (nth l i) 0,h1.symm, ?_⟩
  have h3:len (rS (nth l i) 0)=128:=by simpa using h2
  simp only[len] at h3
  omega
 ·rw[show qQ (fun _ r=>(len (rS r 0)) != 128) (⟨l⟩:nd).nV 0=true from ha] at h
  cases h
theorem nzV {l:Rows} (h:pgs l) (hl:l.length≤64):qc (⟨l⟩:nd)=true:=by
 unfold qc
 rw[nvU (fun i hi=> ?_)]
 ·exact decide_eq_true (by simp only[len];omega)
 ·obtain⟨p,hp,h2⟩:=h i hi
  show (len (rS (nth l i) 0) != 128)=false
  rw[hp]
  show ((p.length:Int) != 128)=false
  rw[h2]
  rfl
theorem nyS (a b:Nat):Int.tdiv (a:Int) (b:Int)=((a / b:Nat):Int):=rfl
theorem nyT (a b:Nat):Int.tmod (a:Int) (b:Int)=((a % b:Nat):Int):=rfl
theorem nxa (a:Nat):Int.tdiv (a:Int) 128=((a / 128:Nat):Int):=nyS a 128
theorem nxb (a:Nat):Int.tmod (a:Int) 128=((a % 128:Nat):Int):=nyT a 128
def nkW (k_:Int→α) (list_:Rows) (domain address:Int) (write:Bool):α:=
 let z0:Int:=tI list_ domain (nK (Int.tdiv address 128))
 let z1:Bool:=decide (z0<0)
 let z2:Bool:=DF true (idx z0 list_)
 let z3:List DC:=nth list_ (Int.toNat z0)
 bif decide (address<0) then k_ (-1)
 else bif KW z1 true (KW write z2 true) then
   bif bif z1 then true else bif write then !(rB z3 3) else false then k_ (-1)
   else bif z2 then
     k_ (nK ((nK ((rI z3 2)*128))+(Int.tmod address 128)))
    else jK
  else jK
def ntp (list_:Rows) (domain address:Int):Int:=tI list_ domain (nK (Int.tdiv address 128))
def place (list_:Rows) (domain address:Int) (write:Bool):Int:=
 bif decide (address<0) then -1
 else bif bif decide (ntp list_ domain address<0) then true else bif write then !(rB (nth list_ (Int.toNat (ntp list_ domain address))) 3) else false then -1
 else nK ((nK ((rI (nth list_ (Int.toNat (ntp list_ domain address))) 2)*128))+(Int.tmod address 128))
theorem ntq (list_:Rows) (domain address:Int):ntp list_ domain address<0∨∃i:Nat,i<list_.length∧ntp list_ domain address=(i:Int)∧rI (nth list_ i) 0=domain:=by
 unfold ntp tI
 rcases Qb (fun _ r=>bif (rI r 0)==domain then (rI r 1)==(nK (Int.tdiv address 128)) else false) list_ 0 with ⟨h,_⟩ | ⟨i,h1,h2,h3⟩
 ·exact .inl (by rw[h];decide)
 ·refine .inr ⟨i,h1,by rw[h2];simp, ?_⟩
  have:=(nyx _ _).1 h3
  simpa using this.1
theorem nv9 (k_:Int→α) (list_:Rows) (domain address:Int) (write:Bool) (pg:Gk (.sl [.i,.i,.i,.bool]) (.sl list_)):nkW jK k_ list_ domain address write=k_ (place list_ domain address write):=by
 obtain⟨hl,_⟩:=oy pg
 unfold nkW place
 refine Jk rfl ?_
 show (bif KW (decide (ntp list_ domain address<0)) true (KW write (DF true (idx (ntp list_ domain address) list_)) true) then _ else jK)=_
 rcases ntq list_ domain address with h | ⟨i,h1,h2,_⟩
 ·have e:decide (ntp list_ domain address<0)=true:=decide_eq_true h
  have e2:∀x,KW true true x=true:=fun x=>by cases x<;>rfl
  have e':decide (tI list_ domain (nK (Int.tdiv address 128))<0)=true:=e
  simp only[e,e',e2,cond_true]
 ·have hx:idx (ntp list_ domain address) list_=true:=by rw[h2];exact nT h1
  have BM:idx (tI list_ domain (nK (Int.tdiv address 128))) list_=true:=hx
  simp only[hx,BM,nc,zx,cond_true]
  exact Jk rfl rfl
def YX {α:Type} (k_:Bool→α) (m:nd) (at_ n:Int):α:=
 let z0:Int:=nK ((len m.nV)*128)
 k_ (bif qc m then bif decide (0≤n) then bif decide (n≤z0) then bif decide (0≤at_) then decide (at_≤nK (z0 - n)) else false else false else false else false)
def within (m:nd) (at_ n:Int):Bool:=YX id m at_ n
theorem nuJ {α:Type} (k_:Bool→α) (m:nd) (at_ n:Int):YX k_ m at_ n=k_ (within m at_ n):=by
 rfl
def na6 {α:Type} (k_:Bool→α) (m:nd) (at_ n:Int):α:=
 let z0:Int:=nK (128*(len m.nV))
 k_ (bif qc m then bif decide (0≤n) then bif decide (0≤at_) then bif decide (at_≤z0) then decide (n≤nK (z0 - at_)) else false else false else false else false)
theorem nov {α:Type} (k_:Bool→α) (m:nd) (at_ n:Int) (Vk:jI nd.ct m.enc) (Qe:Gk .i (.int at_)) (h_n:Gk .i (.int n)):na6 k_ m at_ n=k_ (within m at_ n):=by
 have hn:=ye h_n
 have ha:=ye Qe
 unfold na6 within YX
 refine congrArg k_ ?_
 show (bif qc m then _ else false)=(bif qc m then _ else false)
 cases hm:qc m
 ·rfl
 ·have Gv:=(nwg (nd.xu Vk) hm).2
  have e1:nK (128*(len m.nV))=128*(m.nV.length:Int):=by simp only[len];exact nF (by omega) (by omega)
  have e2:nK ((len m.nV)*128)=128*(m.nV.length:Int):=by simp only[len];rw[nF (by omega) (by omega)];omega
  simp only[e1,e2,cond_true]
  rw[Bool.eq_iff_iff]
  simp only[nyx,decide_eq_true_eq]
  constructor
  ·rintro ⟨h1,h2,h3,h4⟩
   rw[nF (by omega) (by omega)] at h4
   refine⟨h1,by omega,h2, ?_⟩
   rw[nF (by omega) (by omega)]
   omega
  ·rintro ⟨h1,h2,h3,h4⟩
   rw[nF (by omega) (by omega)] at h4
   refine⟨h1,h3,by omega, ?_⟩
   rw[nF (by omega) (by omega)]
   omega
theorem nmy {l:Rows} {a n:Int} (hw:Gk (.sl [.str]) (.sl l)) (h:within (⟨l⟩:nd) a n=true):pgs l∧l.length≤64∧0≤n∧0≤a∧a+n≤128*l.length:=by
 have h0:(bif qc (⟨l⟩:nd) then bif decide (0≤n) then bif decide (n≤nK ((len l)*128)) then bif decide (0≤a) then decide (a≤nK (nK ((len l)*128) - n)) else false else false else false else false)=true:=h
 simp only[nyx,decide_eq_true_eq] at h0
 obtain⟨h1,h2,h3,h4,h5⟩:=h0
 obtain⟨p1,p2⟩:=nwg hw h1
 have e:nK ((len l)*128)=128*(l.length:Int):=by simp only[len];rw[nF (by omega) (by omega)];omega
 rw[e] at h3 h5
 rw[nF (by omega) (by omega)] at h5
 exact⟨p1,p2,h2,h4,by omega⟩
theorem nye {l:Rows} {a n:Nat} (hp:pgs l) (hl:l.length≤64) (h:a+n≤128*l.length):within (⟨l⟩:nd) (a:Int) (n:Int)=true:=by
 have e:nK ((len l)*128)=128*(l.length:Int):=by simp only[len];rw[nF (by omega) (by omega)];omega
 have h0:(bif qc (⟨l⟩:nd) then bif decide (0≤(n:Int)) then bif decide ((n:Int)≤nK ((len l)*128)) then bif decide (0≤(a:Int)) then decide ((a:Int)≤nK (nK ((len l)*128) - (n:Int))) else false else false else false else false)=true:=by
  simp only[nyx,decide_eq_true_eq]
  refine⟨nzV hp hl,by omega,by rw[e];omega,by omega, ?_⟩
  rw[e,nF (by omega) (by omega)]
  omega
 exact h0
theorem nxB {l:Rows} (h:pgs l) (hl:l.length≤64):Gk (.sl [.str]) (.sl l):=by
 simp only[Gk]
 refine⟨l,rfl,by rw[ng0];omega,fun r hr=> ?_⟩
 obtain⟨i,hi,rfl⟩:=List.getElem_of_mem hr
 obtain⟨p,hp,h2⟩:=h i hi
 have e:l[i]=nth l i:=by simp [nth,hi]
 rw[e,hp]
 exact nxC (by simp only[Gk];exact⟨p,rfl,by rw[ng0];omega⟩) nwC
def YK (Q:Nat→Prop):Rows→Nat→Prop
 | [],n=>n=0
 | r::rs,n=>∃p k:Nat,r=[.int (p:Int),.int (k:Int)]∧1≤k∧k≤n∧p % 128+k≤128∧Q (p / 128)∧YK Q rs (n - k)
def nq1 (list_:Rows) (domain:Int) (write:Bool) (nvF:Rows):Nat→Int→Int→Rows→Rows×Bool
 | 0,_,_,o=>(o,true)
 | m+1,a,n,o=>bif decide (0<n) then
   bif bif decide (place list_ domain a write<0) then true else !(within (⟨nvF⟩:nd) (place list_ domain a write) (ue n (nK (128 - Int.tmod a 128)))) then ([],false)
   else bif bif decide (nK (a+ue n (nK (128 - Int.tmod a 128)))<0) then decide (0<nK (n - ue n (nK (128 - Int.tmod a 128)))) else false then ([],false)
   else nq1 list_ domain write nvF m (nK (a+ue n (nK (128 - Int.tmod a 128)))) (nK (n - ue n (nK (128 - Int.tmod a 128)))) (o++[[.int (place list_ domain a write),.int (ue n (nK (128 - Int.tmod a 128)))]])
  else (o,true)
theorem nto {a n:Int} (ha:0≤a) (hn:0<n) (h4:n≤4096):1≤ue n (nK (128 - Int.tmod a 128))∧ue n (nK (128 - Int.tmod a 128))≤n∧Int.tmod a 128+ue n (nK (128 - Int.tmod a 128))≤128∧nK (n - ue n (nK (128 - Int.tmod a 128)))=n - ue n (nK (128 - Int.tmod a 128)):=by
 have r:=nmx (x:=a) (m:=128) ha (by omega)
 rw[nF (n:=128 - Int.tmod a 128) (by omega) (by omega)]
 unfold ue
 split
 ·refine⟨by omega,by omega,by omega,nF (by omega) (by omega)⟩
 ·refine⟨by omega,by omega,by omega,nF (by omega) (by omega)⟩
def uI (list_:Rows) (m:nd) (domain at_ n:Int) (write:Bool):Rows×Bool:=
 bif bif !(pC list_) then true else bif !(qc m) then true else !(nf n 0 4096) then ([],false)
 else bif n==0 then ([],true)
 else bif decide (at_<0) then ([],false)
 else nq1 list_ domain write m.nV (n.toNat+1) at_ n []
def QI (k_:Rows→Bool→α) (list_:Rows) (domain:Int) (write:Bool) (qi:Rows) (ov:Int→Int→Rows→α) (vO n_1:Int) (nD:Rows):α:=
 let z0:Int:=ue n_1 (nK (128 - (Int.tmod vO 128)))
 let z1:Int:=nK (vO+z0)
 let z2:Int:=nK (n_1 - z0)
 bif decide (0<n_1) then
  bif bif decide (place list_ domain vO write<0) then true else !(within (⟨qi⟩:nd) (place list_ domain vO write) z0) then k_ [] false
  else bif DF true (oT 16 nD ([[.int (place list_ domain vO write),.int z0]])) then
    bif bif decide (z1<0) then decide (0<z2) else false then k_ [] false
    else ov z1 z2 (nD++([[.int (place list_ domain vO write),.int z0]]))
   else jK
 else k_ nD true
def QH (k_:Rows→Bool→α) (N:Nat) (list_:Rows) (domain:Int) (write:Bool) (qi:Rows) (m_:Nat):Int→Int→Rows→α:=
 Nat.rec (motive:=fun _=>Int→Int→Rows→α) (fun _ _ _=>jK) (fun _ ov=>QI jK k_ list_ domain write qi ov) m_
theorem nmS (k_:Rows→Bool→α) (N:Nat) (list_:Rows) (domain:Int) (write:Bool) (qi:Rows) (m_:Nat):QH jK k_ N list_ domain write qi (m_+1)=QI jK k_ list_ domain write qi (QH jK k_ N list_ domain write qi m_):=rfl
def YT {α:Type} (jK:α) (k_:Rows→Bool→α) (l0:Rows→Int→Int→Rows→α) (list_:Rows) (m:nd) (domain at_ n:Int) (write:Bool):α:=
 bif bif !(pC list_) then true else bif !(qc m) then true else !(nf n 0 4096) then k_ [] false
 else bif n==0 then k_ [] true
 else bif decide (at_<0) then k_ [] false
 else l0 m.nV at_ n []
def nig (k_:Rows→Bool→α) (N:Nat) (list_:Rows) (m:nd) (domain at_ n:Int) (write:Bool):α:=YT jK k_ (fun qi=>QH jK k_ N list_ domain write qi N) list_ m domain at_ n write
theorem nuD (k_:Rows→Bool→α) (list_:Rows) (m:nd) (domain at_ n:Int) (write:Bool) (Qe:Gk .i (.int at_)):∃N,nig jK k_ N list_ m domain at_ n write=k_ (uI list_ m domain at_ n write).1 (uI list_ m domain at_ n write).2:=by
 refine⟨n.toNat+2, ?_⟩
 unfold nig YT uI
 refine pj (K:=fun r:Rows×Bool=>k_ r.1 r.2) (fun _=>rfl) (fun hg=>pj (K:=fun r:Rows×Bool=>k_ r.1 r.2) (fun _=>rfl) (fun GP=>pj (K:=fun r:Rows×Bool=>k_ r.1 r.2) (fun _=>rfl) (fun ha=> ?_)))
 have hb:0≤n∧n≤4096:=by
  cases hc:nf n 0 4096
  ·rw[hc] at hg
   cases h1:pC list_<;>cases h2:qc m<;>rw[h1,h2] at hg<;>cases hg
  ·exact n0.1 hc
 have ha:=of_decide_eq_false ha
 have Gx:=ye Qe
 have key:∀(q N':Nat) (a n:Int) (o:Rows),n<q→q≤N'→0≤n→n≤4096→a≤9223372036854775807→(0<n→0≤a)→o.length+n.toNat≤5000→∀M,QH jK k_ M list_ domain write m.nV N' a n o=k_ (nq1 list_ domain write m.nV q a n o).1 (nq1 list_ domain write m.nV q a n o).2:=by
  intro q
  induction q with
  | zero=>intro N' a n o h1 h2 h3;omega
  | succ q ih=>
   intro N' a n o h1 h2 h3 h4 h7 h5 h6 M
   obtain⟨N',rfl⟩:∃p,N'=p+1:=⟨N' - 1,by omega⟩
   rw[nmS]
   by_cases hn:0<n
   ·obtain⟨r1,r2,r3,r4⟩:=nto (h5 hn) hn h4
    have hr:∀x:List DC,oT 16 o [x]=true:=fun x=>qY (by simp only[List.length_cons,List.length_nil];omega) (by omega)
    unfold nq1
    simp only[QI,decide_eq_true hn,hr,nc,cond_true]
    refine pj (K:=fun r:Rows×Bool=>k_ r.1 r.2) (fun _=>rfl) (fun _=>pj (K:=fun r:Rows×Bool=>k_ r.1 r.2) (fun _=>rfl) (fun hov=> ?_))
    rw[r4] at hov ⊢
    refine ih N' _ _ _ (by omega) (by omega) (by omega) (by omega) (nyV _) (fun hp=> ?_) (by simp only[List.length_append,List.length_cons,List.length_nil];omega) M
    rw[decide_eq_true hp] at hov
    have hov:decide (nK (a+ue n (nK (128 - Int.tmod a 128)))<0)=false:=by
     cases hd:decide (nK (a+ue n (nK (128 - Int.tmod a 128)))<0)
     ·rfl
     ·rw[hd] at hov;cases hov
    have:=of_decide_eq_false hov
    omega
   ·unfold nq1
    simp only[QI,decide_eq_false hn,cond_false]
 exact key (n.toNat+1) (n.toNat+2) at_ n [] (by omega) (by omega) hb.1 hb.2 Gx.2 (fun _=>by omega) (by simp only[List.length_nil];omega) _
theorem YK.len {Q:Nat→Prop} :∀ {l:Rows} {n:Nat},YK Q l n→l.length≤n
 | [],_,_=>Nat.zero_le _
 | r::rs,n,⟨p,k,_,h1,h2,_,_,h3⟩=>by
  have:=h3.len
  simp only[List.length_cons]
  omega
theorem YK.imp {Q Q':Nat→Prop} (h:∀i,Q i→Q' i):∀ {l:Rows} {n:Nat},YK Q l n→YK Q' l n
 | [],_,h0=>h0
 | r::rs,n,⟨p,k,e,h1,h2,h3,h4,h5⟩=>⟨p,k,e,h1,h2,h3,h _ h4,h5.imp h⟩
theorem nw0 {list_:Rows} (hM:pC list_=true) {domain a:Int} {write:Bool} (ha:0≤a):place list_ domain a write<0∨∃i:Nat,i<list_.length∧rI (nth list_ i) 0=domain∧0≤rI (nth list_ i) 2∧rI (nth list_ i) 2≤63∧
  place list_ domain a write=rI (nth list_ i) 2*128+Int.tmod a 128:=by
 unfold place
 rw[decide_eq_false (show ¬a<0 by omega),cond_false]
 rcases ntq list_ domain a with h | ⟨i,h1,h2,h3⟩
 ·rw[decide_eq_true h]
  exact .inl (show (-1:Int)<0 by decide)
 ·rw[h2,Int.toNat_natCast]
  cases (bif decide ((i:Int)<0) then true else bif write then !(rB (nth list_ i) 3) else false)
  ·have hb:=(Vd hM).2 (nth list_ i) (uB h1)
   have hp:nf (rI (nth list_ i) 2) 0 63=true:=by
    unfold xV at hb
    cases h4:nf (rI (nth list_ i) 2) 0 63
    ·rw[h4] at hb
     revert hb
     cases nf (rI (nth list_ i) 0) 0 7<;>cases nf (rI (nth list_ i) 1) 0 1023<;>simp
    ·rfl
   have hp:=n0.1 hp
   have r:=nmx (x:=a) (m:=128) ha (by omega)
   refine .inr ⟨i,h1,h3,hp.1,hp.2, ?_⟩
   rw[cond_false,nF (n:=rI (nth list_ i) 2*128) (by omega) (by omega),nF (by omega) (by omega)]
  ·exact .inl (show (-1:Int)<0 by decide)
theorem nvG {list_ nvF:Rows} (hM:pC list_=true) {domain:Int} {write:Bool} :∀(q:Nat) (a n:Int) (o:Rows),n<q→0≤n→n≤4096→(0<n→0≤a)→(nq1 list_ domain write nvF q a n o).2=true→
  ∃rs,(nq1 list_ domain write nvF q a n o).1=o++rs∧YK (fun p=>∃i:Nat,i<list_.length∧rI (nth list_ i) 0=domain∧rI (nth list_ i) 2=(p:Int)) rs n.toNat
 | 0,a,n,o,h1,h2,_,_,_=>by omega
 | q+1,a,n,o,h1,h2,h3,h4,h5=>by
  unfold nq1 at h5 ⊢
  by_cases hn:0<n
  ·rw[decide_eq_true hn,cond_true] at h5 ⊢
   have ha:=h4 hn
   obtain⟨r1,r2,r3,r4⟩:=nto ha hn h3
   cases hc:(bif decide (place list_ domain a write<0) then true else !(within (⟨nvF⟩:nd) (place list_ domain a write) (ue n (nK (128 - Int.tmod a 128)))))
   ·rw[hc,cond_false] at h5
    rw[cond_false]
    cases hov:(bif decide (nK (a+ue n (nK (128 - Int.tmod a 128)))<0) then decide (0<nK (n - ue n (nK (128 - Int.tmod a 128)))) else false)
    ·rw[hov,cond_false] at h5
     rw[cond_false]
     rw[r4] at h5 hov ⊢
     obtain⟨rs,e1,e2⟩:=nvG hM q _ _ _ (by omega) (by omega) (by omega) (fun hp=>by
      rw[decide_eq_true hp] at hov
      have hov:decide (nK (a+ue n (nK (128 - Int.tmod a 128)))<0)=false:=by
       cases hd:decide (nK (a+ue n (nK (128 - Int.tmod a 128)))<0)
       ·rfl
       ·rw[hd] at hov;cases hov
      have:=of_decide_eq_false hov
      omega) h5
     refine⟨[.int (place list_ domain a write),.int (ue n (nK (128 - Int.tmod a 128)))]::rs,by rw[e1,List.append_assoc];rfl, ?_⟩
     rcases nw0 hM (domain:=domain) (write:=write) ha with nzS | ⟨i,i1,i2,i3,i4,i5⟩
     ·rw[decide_eq_true nzS] at hc
      cases hc
     ·have r:=nmx (x:=a) (m:=128) ha (by omega)
      have hdiv:(place list_ domain a write).toNat / 128=(rI (nth list_ i) 2).toNat∧(place list_ domain a write).toNat % 128=(Int.tmod a 128).toNat:=by
       rw[i5]
       omega
      refine⟨(place list_ domain a write).toNat,(ue n (nK (128 - Int.tmod a 128))).toNat, ?_,by omega,by omega,by rw[hdiv.2];omega,⟨i,i1,i2,by rw[hdiv.1];omega⟩, ?_⟩
      ·rw[Int.toNat_of_nonneg (by rw[i5];omega),Int.toNat_of_nonneg (by omega)]
      ·have:(n - ue n (nK (128 - Int.tmod a 128))).toNat=n.toNat - (ue n (nK (128 - Int.tmod a 128))).toNat:=by omega
       rw[←this]
       exact e2
    ·rw[hov] at h5
     cases h5
   ·rw[hc] at h5
    cases h5
  ·rw[decide_eq_false hn,cond_false] at h5 ⊢
   refine⟨[],by simp, ?_⟩
   show n.toNat=0
   omega
theorem nw2 {list_:Rows} {m:nd} {domain at_ n:Int} {write:Bool} (hw:Gk (.sl [.str]) (.sl m.nV)) (h:(uI list_ m domain at_ n write).2=true):
  pgs m.nV∧m.nV.length≤64∧YK (fun p=>∃i:Nat,i<list_.length∧rI (nth list_ i) 0=domain∧rI (nth list_ i) 2=(p:Int)) (uI list_ m domain at_ n write).1 n.toNat∧n≤4096:=by
 unfold uI at h ⊢
 cases hM:pC list_
 ·rw[hM] at h;cases h
 cases hm:qc m
 ·rw[hM,hm] at h;cases h
 cases hb:nf n 0 4096
 ·rw[hM,hm,hb] at h;cases h
 have hb:=n0.1 hb
 obtain⟨p1,p2⟩:=nwg hw hm
 rw[hM,hm,show nf n 0 4096=true from n0.2 hb] at h
 simp only[Bool.not_true,cond_false] at h ⊢
 refine⟨p1,p2, ?_,hb.2⟩
 by_cases h0:n=0
 ·subst h0
  exact rfl
 ·rw[show (n==0)=false by simpa using h0,cond_false] at h ⊢
  by_cases ha:at_<0
  ·rw[decide_eq_true ha] at h;cases h
  ·rw[decide_eq_false ha,cond_false] at h ⊢
   obtain⟨rs,e1,e2⟩:=nvG hM (n.toNat+1) at_ n [] (by omega) hb.1 hb.2 (fun _=>by omega) h
   rw[e1]
   exact e2
theorem no1 {list_:Rows} {m:nd} {domain at_ n:Int} {write:Bool} (hw:Gk (.sl [.str]) (.sl m.nV)) (h:(uI list_ m domain at_ n write).2=true):
  pgs m.nV∧m.nV.length≤64∧YK (fun _=>True) (uI list_ m domain at_ n write).1 n.toNat∧(uI list_ m domain at_ n write).1.length≤5000:=by
 obtain⟨a,b,c,d⟩:=nw2 hw h
 have:=c.len
 exact⟨a,b,c.imp (fun _ _=>trivial),by omega⟩
theorem no9 {l:Rows} (hp:pgs l) (hl:l.length≤64) {a n:Int} :within (⟨l⟩:nd) a n=true↔0≤n∧0≤a∧a+n≤128*l.length:=by
 constructor
 ·intro h
  obtain⟨_,_,h1,h2,h3⟩:=nmy (nxB hp hl) h
  exact⟨h1,h2,h3⟩
 ·rintro ⟨h1,h2,h3⟩
  obtain⟨n,rfl⟩:=Int.eq_ofNat_of_zero_le h1
  obtain⟨a,rfl⟩:=Int.eq_ofNat_of_zero_le h2
  exact nye hp hl (by omega)
theorem nxf {l:Rows} (hp:pgs l) (hl:l.length≤64) {p o k:Int} (h0:0≤p) (o0:0≤o) (k1:1≤k) (hk:o+k≤128):within (⟨l⟩:nd) (p*128+o) k=within (⟨l⟩:nd) (p*128) 128:=by
 rw[Bool.eq_iff_iff,no9 hp hl,no9 hp hl]
 omega
def nxn (domain o_:Int) (write:Bool) (r:List DC):Bool:=bif (rI r 0)==domain then bif (rI r 1)==o_ then bif rB r 3 then true else !write else false else false
def nxM (list_:Rows) (domain o_:Int) (write:Bool):Int:=findIdx (fun _ r=>nxn domain o_ write r) list_ 0
def Pb (k_:Int→α) (list_:Rows) (domain o_:Int) (write:Bool) (ov:Int→α) (k:Int):α:=
 let z0:Bool:=(rI (nth list_ (Int.toNat k)) 0)==domain
 let z1:Bool:=(rI (nth list_ (Int.toNat k)) 1)==o_
 let z2:Bool:=DF (DF true (idx k list_)) (idx k list_)
 let z3:Bool:=DF z2 (idx k list_)
 bif decide (k<len list_) then
  bif KW z0 (KW z1 (KW (rB (nth list_ (Int.toNat k)) 3) z3 z3) z2) (DF true (idx k list_)) then
   bif bif z0 then bif z1 then bif rB (nth list_ (Int.toNat k)) 3 then true else !write else false else false then
    bif DF true (idx k list_) then
     k_ (rI (nth list_ (Int.toNat k)) 2)
    else jK
   else ov (nK (k+1))
  else jK
 else k_ (-1)
def Pa (k_:Int→α) (N:Nat) (list_:Rows) (domain o_:Int) (write:Bool) (m_:Nat):Int→α:=
 Nat.rec (motive:=fun _=>Int→α) (fun _=>jK) (fun _ ov=>Pb jK k_ list_ domain o_ write ov) m_
theorem YD (k_:Int→α) (N:Nat) (list_:Rows) (domain o_:Int) (write:Bool) (m_:Nat):Pa jK k_ N list_ domain o_ write (m_+1)=Pb jK k_ list_ domain o_ write (Pa jK k_ N list_ domain o_ write m_):=rfl
def W9 {α:Type} (jK:α) (k_ l0:Int→α) (list_:Rows) (domain o_:Int) (write:Bool):α:=
 l0 0
def ngv (k_:Int→α) (N:Nat) (list_:Rows) (domain o_:Int) (write:Bool):α:=W9 jK k_ (Pa jK k_ N list_ domain o_ write N) list_ domain o_ write
def w7 (list_:Rows) (domain o_:Int) (write:Bool):Int:=bif decide (nxM list_ domain o_ write<0) then -1 else rI (nth list_ (Int.toNat (nxM list_ domain o_ write))) 2
theorem nt1 (k_:Int→α) (list_:Rows) (domain o_:Int) (write:Bool) (pg:Gk (.sl [.i,.i,.i,.bool]) (.sl list_)):∃N,ngv jK k_ N list_ domain o_ write=k_ (w7 list_ domain o_ write):=by
 obtain⟨hl,_⟩:=oy pg
 refine⟨list_.length+1, ?_⟩
 unfold ngv W9 w7
 refine (qW list_ (Pa jK k_ (list_.length+1) list_ domain o_ write) (fun i r c=>bif nxn domain o_ write r then k_ (bif decide ((i:Int)<0) then -1 else rI (nth list_ (Int.toNat (i:Int))) 2) else c) (k_ (-1)) ?_ ?_).trans ?_
 ·intro n i h
  rw[YD]
  have h0:decide ((i:Int)<0)=false:=decide_eq_false (by omega)
  simp only[Pb,oV h,nT h,n_ h hl,Int.toNat_natCast,nc,nn,zx,cond_true,h0,cond_false]
  rfl
 ·intro n
  rw[YD]
  simp only[Pb,nQ,cond_false]
 ·exact nbi (fun _ r=>nxn domain o_ write r) (fun x=>k_ (bif decide (x<0) then -1 else rI (nth list_ (Int.toNat x)) 2)) list_ 0
theorem nrV {l:Rows} (h:pC l=true) {i j:Nat} (hi:i<l.length) (hj:j<l.length) (h0:rI (nth l i) 0=rI (nth l j) 0) (h1:rI (nth l i) 1=rI (nth l j) 1):i=j:=by
 have key:∀i j:Nat,i<l.length→j<i→rI (nth l j) 0=rI (nth l i) 0→rI (nth l j) 1=rI (nth l i) 1→False:=by
  intro i j hi hj h0 h1
  unfold pC at h
  by_cases h9:96<len l
  ·simp [h9] at h
  simp only[decide_eq_false h9,cond_false] at h
  cases ha:qQ (fun i r=>bif xV r then true else zi (fun j=>bif (rI (nth l j) 0)==(rI r 0) then (rI (nth l j) 1)==(rI r 1) else false) i 0) l 0
  ·have h2:=nvx ha i hi
   rw[Nat.zero_add] at h2
   cases hb:xV (nth l i)
   ·rw[hb,cond_false] at h2
    have h3:=nxE h2 j (Nat.zero_le _) (by omega)
    rw[h0,h1] at h3
    simp at h3
   ·rw[hb] at h2
    cases h2
  ·rw[ha] at h
   cases h
 rcases Nat.lt_trichotomy i j with h2 | h2 | h2
 ·exact (key j i hj h2 h0 h1).elim
 ·exact h2
 ·exact (key i j hi h2 h0.symm h1.symm).elim
theorem nx7 {l:Rows} (hM:pC l=true) {d a:Int} {w:Bool} (ha:0≤a):place l d a w=bif decide (w7 l d (nK (Int.tdiv a 128)) w<0) then -1 else nK (nK (w7 l d (nK (Int.tdiv a 128)) w*128)+Int.tmod a 128):=by
 unfold place
 rw[decide_eq_false (show ¬a<0 by omega),cond_false]
 have hT:∀r,nxn d (nK (Int.tdiv a 128)) w r=true↔(rI r 0=d∧rI r 1=nK (Int.tdiv a 128))∧(rB r 3=true∨w=false):=by
  intro r
  unfold nxn
  by_cases h0:rI r 0=d
  ·by_cases h1:rI r 1=nK (Int.tdiv a 128)
   ·cases rB r 3<;>cases w<;>simp [h0,h1]
   ·simp [h0,h1]
  ·simp [h0]
 have ip:∀i,0≤rI (nth l i) 2∨¬i<l.length:=by
  intro i
  by_cases hi:i<l.length
  ·have hb:=(Vd hM).2 (nth l i) (uB hi)
   unfold xV at hb
   cases h4:nf (rI (nth l i) 2) 0 63
   ·rw[h4] at hb
    revert hb
    cases nf (rI (nth l i) 0) 0 7<;>cases nf (rI (nth l i) 1) 0 1023<;>simp
   ·exact .inl (n0.1 h4).1
  ·exact .inr hi
 have hq:=Qb (fun _ r=>nxn d (nK (Int.tdiv a 128)) w r) l 0
 have hp:=Qb (fun _ r=>bif (rI r 0)==d then (rI r 1)==(nK (Int.tdiv a 128)) else false) l 0
 have e1:ntp l d a=findIdx (fun _ r=>bif (rI r 0)==d then (rI r 1)==(nK (Int.tdiv a 128)) else false) l 0:=rfl
 unfold w7 nxM
 rw[e1]
 rcases hp with ⟨p1,p2⟩ | ⟨i,i1,i2,i3⟩
 ·rw[p1]
  rcases hq with ⟨q1,_⟩ | ⟨j,j1,_,j3⟩
  ·rw[q1];rfl
  ·have h2:=p2 j j1
   have h3:=((hT _).1 j3).1
   simp [h3.1,h3.2] at h2
 ·rw[i2]
  have hi3:rI (nth l i) 0=d∧rI (nth l i) 1=nK (Int.tdiv a 128):=by simpa [nyx] using i3
  simp only[Nat.zero_add,Int.toNat_natCast,decide_eq_false (show ¬((i:Int)<0) by omega),cond_false]
  rcases hq with ⟨q1,q2⟩ | ⟨j,j1,j2,j3⟩
  ·rw[q1]
   have h2:=q2 i i1
   have h3:¬(rB (nth l i) 3=true∨w=false):=fun h=>by
    rw[(hT _).2 ⟨hi3,h⟩] at h2
    cases h2
   rw[not_or] at h3
   cases w
   ·exact absurd rfl h3.2
   ·simp only[h3.1,cond_true,Bool.not_eq_true _ ▸ (by simpa using h3.1:rB (nth l i) 3=false),Bool.not_false]
    rfl
  ·have h3:=(hT _).1 j3
   have hij:i=j:=nrV hM i1 j1 (hi3.1.trans h3.1.1.symm) (hi3.2.trans h3.1.2.symm)
   subst hij
   rw[j2]
   simp only[Nat.zero_add,Int.toNat_natCast,decide_eq_false (show ¬((i:Int)<0) by omega),cond_false]
   have hn:=(ip i).resolve_right (by omega)
   rw[decide_eq_false (show ¬rI (nth l i) 2<0 by omega),cond_false]
   have hc:(bif w then !(rB (nth l i) 3) else false)=false:=by
    rcases h3.2 with h4 | h4
    ·rw[h4];cases w<;>rfl
    ·rw[h4];rfl
   rw[hc,cond_false]
theorem ny6 {l:Rows} (hM:pC l=true) (d v:Int) (w:Bool):w7 l d v w= -1∨(0≤w7 l d v w∧w7 l d v w≤63):=by
 unfold w7 nxM
 rcases Qb (fun _ r=>nxn d v w r) l 0 with ⟨q1,_⟩ | ⟨j,j1,j2,j3⟩
 ·rw[q1];exact .inl rfl
 ·rw[j2]
  simp only[Nat.zero_add,Int.toNat_natCast,decide_eq_false (show ¬((j:Int)<0) by omega),cond_false]
  have hb:=(Vd hM).2 (nth l j) (uB j1)
  unfold xV at hb
  cases h4:nf (rI (nth l j) 2) 0 63
  ·rw[h4] at hb
   revert hb
   cases nf (rI (nth l j) 0) 0 7<;>cases nf (rI (nth l j) 1) 0 1023<;>simp
  ·exact .inr (n0.1 h4)
def pF0 (r:List DC):List DC:=[.int (rI r 0)]
def pF1 (r:List DC):List DC:=[.int (rI r 1)]
theorem ny9 (f:List DC→List DC) {l:Rows} {i:Nat} (h:i<l.length):nth (l.map f) i=f (nth l i):=by
 simp [nth,List.getD_eq_getElem?_getD,h]
def xt (k_:Rows→Rows→Bool→α) (list_:Rows) (domain:Int) (write:Bool) (qi:Rows) (ov:Int→Int→Rows→Rows→α) (vO n_1:Int) (starts tg:Rows):α:=
 let z0:Int:=bif decide (0≤vO) then w7 list_ domain (nK (Int.tdiv vO 128)) write else (-1)
 let z1:Int:=ue n_1 (nK (128 - (Int.tmod vO 128)))
 bif decide (0<n_1) then
  bif bif decide (z0<0) then true else !(within (⟨qi⟩:nd) (nK (z0*128)) 128) then k_ [] [] false
  else bif DF true (oT 8 starts ([[.int (nK ((nK (z0*128))+(Int.tmod vO 128)))]])) then
    bif DF true (oT 8 tg ([[.int z1]])) then
     ov (nK (vO+z1)) (nK (n_1 - z1)) (starts++([[.int (nK ((nK (z0*128))+(Int.tmod vO 128)))]])) (tg++([[.int z1]]))
    else jK
   else jK
 else k_ starts tg true
def NC (k_:Rows→Rows→Bool→α) (N:Nat) (list_:Rows) (domain:Int) (write:Bool) (qi:Rows) (m_:Nat):Int→Int→Rows→Rows→α:=
 Nat.rec (motive:=fun _=>Int→Int→Rows→Rows→α) (fun _ _ _ _=>jK) (fun _ ov=>xt jK k_ list_ domain write qi ov) m_
theorem nka (k_:Rows→Rows→Bool→α) (N:Nat) (list_:Rows) (domain:Int) (write:Bool) (qi:Rows) (m_:Nat):NC jK k_ N list_ domain write qi (m_+1)=xt jK k_ list_ domain write qi (NC jK k_ N list_ domain write qi m_):=rfl
def T8 {α:Type} (jK:α) (k_:Rows→Rows→Bool→α) (l0:Rows→Int→Int→Rows→Rows→α) (list_:Rows) (m:nd) (domain at_ n:Int) (write:Bool):α:=
 bif bif !(pC list_) then true else bif !(qc m) then true else !(nf n 0 4096) then k_ [] [] false
 else l0 m.nV at_ n [] []
def nd5 (k_:Rows→Rows→Bool→α) (N:Nat) (list_:Rows) (m:nd) (domain at_ n:Int) (write:Bool):α:=T8 jK k_ (fun qi=>NC jK k_ N list_ domain write qi N) list_ m domain at_ n write
def QK (list_:Rows) (m:nd) (domain at_ n:Int) (write:Bool):Rows×Rows×Bool:=
 ((uI list_ m domain at_ n write).1.map pF0,(uI list_ m domain at_ n write).1.map pF1,(uI list_ m domain at_ n write).2)
theorem nrC (k_:Rows→Rows→Bool→α) (list_:Rows) (m:nd) (domain at_ n:Int) (write:Bool) (Vk:jI nd.ct m.enc) (Qe:Gk .i (.int at_)):∃N,nd5 jK k_ N list_ m domain at_ n write=k_ (QK list_ m domain at_ n write).1 (QK list_ m domain at_ n write).2.1 (QK list_ m domain at_ n write).2.2:=by
 have hp0:Gk (.sl [.str]) (.sl m.nV):=nd.xu Vk
 have Gx:=ye Qe
 refine⟨n.toNat+2, ?_⟩
 unfold nd5 T8 QK uI
 refine pj (K:=fun r:Rows×Bool=>k_ (r.1.map pF0) (r.1.map pF1) r.2) (fun _=>rfl) (fun hg=> ?_)
 have hM:pC list_=true:=by
  cases hM:pC list_
  ·rw[hM] at hg;cases hg
  ·rfl
 have hm:qc m=true:=by
  cases hm:qc m
  ·rw[hM,hm] at hg;cases hg
  ·rfl
 have hb:0≤n∧n≤4096:=by
  cases hc:nf n 0 4096
  ·rw[hM,hm,hc] at hg;cases hg
  ·exact n0.1 hc
 obtain⟨p1,p2⟩:=nwg hp0 hm
 have key:∀(q N':Nat) (a n:Int) (o:Rows),n<q→q≤N'→0≤n→n≤4096→a≤9223372036854775807→o.length+n.toNat≤5000→∀M,NC jK k_ M list_ domain write m.nV N' a n (o.map pF0) (o.map pF1)=
   (fun r:Rows×Bool=>k_ (r.1.map pF0) (r.1.map pF1) r.2) (bif bif decide (a<0) then decide (0<n) else false then ([],false) else nq1 list_ domain write m.nV q a n o):=by
  intro q
  induction q with
  | zero=>intro N' a n o h1 h2 h3;omega
  | succ q ih=>
   intro N' a n o h1 h2 h3 h4 h7 h6 M
   obtain⟨N',rfl⟩:∃p,N'=p+1:=⟨N' - 1,by omega⟩
   rw[nka]
   by_cases hn:0<n
   ·by_cases ha:a<0
    ·simp only[xt,decide_eq_true hn,decide_eq_true ha,decide_eq_false (show ¬0≤a by omega),cond_true,cond_false,show decide ((-1:Int)<0)=true from rfl]
     rfl
    ·obtain⟨r1,r2,r3,r4⟩:=nto (show 0≤a by omega) hn h4
     have tm:=nmx (x:=a) (m:=128) (by omega) (by omega)
     have hr:∀(l:Rows) (x:List DC),l.length≤5000→oT 8 l [x]=true:=fun l x hl=>qY (by simp only[List.length_cons,List.length_nil];omega) (by omega)
     have hlp:=nx7 (d:=domain) (w:=write) hM (show 0≤a by omega)
     have fI:(bif decide (w7 list_ domain (nK (Int.tdiv a 128)) write<0) then true else !(within m (nK (w7 list_ domain (nK (Int.tdiv a 128)) write*128)) 128))=
       (bif decide (place list_ domain a write<0) then true else !(within m (place list_ domain a write) (ue n (nK (128 - Int.tmod a 128))))):=by
      rw[hlp]
      rcases ny6 hM domain (nK (Int.tdiv a 128)) write with h8 | ⟨h8,h9⟩
      ·rw[h8];rfl
      ·generalize w7 list_ domain (nK (Int.tdiv a 128)) write=P at h8 h9 ⊢
       rw[decide_eq_false (show ¬P<0 by omega),cond_false,cond_false,nF (n:=P*128) (by omega) (by omega),nF (n:=P*128+Int.tmod a 128) (by omega) (by omega),
        decide_eq_false (show ¬P*128+Int.tmod a 128<0 by omega),cond_false]
       rw[show within m (P*128+Int.tmod a 128) (ue n (nK (128 - Int.tmod a 128)))=within m (P*128) 128 from nxf p1 p2 h8 tm.1 r1 (by omega)]
     have hlen:∀f:List DC→List DC,(o.map f).length≤5000:=fun f=>by rw[List.length_map];omega
     unfold nq1
     simp only[xt,decide_eq_true hn,decide_eq_false ha,decide_eq_true (show 0≤a by omega),cond_true,cond_false,hr _ _ (hlen _),nc]
     have hM1:(⟨m.nV⟩:nd)=m:=rfl
     rw[hM1,fI]
     refine pj (K:=fun r:Rows×Bool=>k_ (r.1.map pF0) (r.1.map pF1) r.2) (fun _=>rfl) (fun hc=> ?_)
     have J7:place list_ domain a write=nK (nK (w7 list_ domain (nK (Int.tdiv a 128)) write*128)+Int.tmod a 128):=by
      rw[hlp]
      cases hd:decide (w7 list_ domain (nK (Int.tdiv a 128)) write<0)
      ·rfl
      ·rw[hlp,hd] at hc
       cases hc
     rw[←J7,r4]
     have e0:o.map pF0++[[DC.int (place list_ domain a write)]]=(o++[[DC.int (place list_ domain a write),DC.int (ue n (nK (128 - Int.tmod a 128)))]]).map pF0:=by rw[List.map_append];rfl
     have e1:o.map pF1++[[DC.int (ue n (nK (128 - Int.tmod a 128)))]]=(o++[[DC.int (place list_ domain a write),DC.int (ue n (nK (128 - Int.tmod a 128)))]]).map pF1:=by rw[List.map_append];rfl
     rw[e0,e1]
     exact ih N' _ _ _ (by omega) (by omega) (by omega) (by omega) (nyV _) (by simp only[List.length_append,List.length_cons,List.length_nil];omega) M
   ·have hz:(bif decide (a<0) then decide (0<n) else false)=false:=by rw[decide_eq_false hn];cases decide (a<0)<;>rfl
    rw[hz]
    unfold nq1
    simp only[xt,decide_eq_false hn,cond_false]
 refine (key (n.toNat+1) (n.toNat+2) at_ n [] (by omega) (by omega) hb.1 hb.2 Gx.2 (by simp only[List.length_nil];omega) _).trans ?_
 congr 1
 by_cases h0:n=0
 ·subst h0
  cases decide (at_<0)<;>rfl
 ·rw[show (n==0)=false by simpa using h0,cond_false,decide_eq_true (show 0<n by omega)]
  cases decide (at_<0)<;>rfl
def PA (l:Rows) (a n:Nat):Bytes:=((rS (nth l (a / 128)) 0).drop (a % 128)).take (min n (128 - a % 128))
def noc:Nat→Nat→Nat→Rows→Bytes
 | 0,_,_,_=>[]
 | m+1,a,n,l=>bif decide (0<n) then PA l a n++noc m (a+min n (128 - a % 128)) (n - min n (128 - a % 128)) l else []
def qu (m:nd) (at_ n:Int):Bytes×Bool:=bif !(within m at_ n) then ([],false) else (noc n.toNat at_.toNat n.toNat m.nV,true)
theorem njU {l:Rows} (hp:pgs l) {a n:Nat} (h:a / 128<l.length):(PA l a n).length=min n (128 - a % 128):=by
 obtain⟨p,e1,e2⟩:=hp (a / 128) h
 unfold PA
 rw[e1,nob,List.length_take,List.length_drop,e2]
 omega
theorem nw1:∀(q a n:Nat) (l:Rows),n≤q→pgs l→a+n≤128*l.length→(noc q a n l).length=n
 | 0,a,n,l,h1,_,_=>by simp only[noc,List.length_nil];omega
 | q+1,a,n,l,h1,hp,h2=>by
  unfold noc
  by_cases hn:0<n
  ·rw[decide_eq_true hn,cond_true,List.length_append,njU hp (by omega),nw1 q _ _ l (by omega) hp (by omega)]
   omega
  ·rw[decide_eq_false hn,cond_false]
   simp only[List.length_nil];omega
theorem zf {m:nd} {a n:Int} (hw:Gk (.sl [.str]) (.sl m.nV)):(qu m a n).1.length≤8192∧(qu m a n).1.length≤n.toNat:=by
 unfold qu
 cases h:within m a n
 ·exact⟨Nat.zero_le _,Nat.zero_le _⟩
 ·obtain⟨p1,p2,p3,p4,p5⟩:=nmy hw h
  simp only[Bool.not_true,cond_false]
  rw[nw1 _ _ _ _ (Nat.le_refl _) p1 (by omega)]
  omega
def vn (k_:Bytes→Bool→α) (n:Int) (qi:Rows) (ov:Int→Rows→α) (vO:Int) (nD:Rows):α:=
 let z0:Int:=ue 128 (nK ((nK ((Int.tmod vO 128)+n)) - (len nD)))
 let z1:Bytes:=uP (rS (nth qi (Int.toNat (nK (Int.tdiv vO 128)))) 0) (Int.tmod vO 128) z0
 bif decide (len nD<n) then
  bif DF true (idx (nK (Int.tdiv vO 128)) qi) then
   bif DF true (QY (rS (nth qi (Int.toNat (nK (Int.tdiv vO 128)))) 0) (Int.tmod vO 128) z0) then
    bif DF true (decide ((List.length nD+List.length z1)*1≤140737488355328) && decide (List.length nD+List.length z1≤9223372036854775807)) then
     ov (nK (vO+(len z1))) (nD++(ofStr z1))
    else jK
   else jK
  else jK
 else k_ (toStr nD) true
def xK (k_:Bytes→Bool→α) (N:Nat) (n:Int) (qi:Rows) (m_:Nat):Int→Rows→α:=
 Nat.rec (motive:=fun _=>Int→Rows→α) (fun _ _=>jK) (fun _ ov=>vn jK k_ n qi ov) m_
theorem S3 (k_:Bytes→Bool→α) (N:Nat) (n:Int) (qi:Rows) (m_:Nat):xK jK k_ N n qi (m_+1)=vn jK k_ n qi (xK jK k_ N n qi m_):=rfl
def QB (k_:Bytes→Bool→α) (l0:Rows→Int→Rows→α) (m:nd) (at_ n:Int):α:=
 bif !(within m at_ n) then k_ [] false
 else bif DF true (xo 1 0 n) then
   l0 m.nV at_ (List.replicate 0 ([.int 0]:List DC))
  else jK
def XE (k_:Bytes→Bool→α) (N:Nat) (m:nd) (at_ n:Int):α:=QB jK k_ (fun qi=>xK jK k_ N n qi N) m at_ n
theorem nkC (k_:Bytes→Bool→α) (m:nd) (at_ n:Int) (Vk:jI nd.ct m.enc):∃N,XE jK k_ N m at_ n=k_ (qu m at_ n).1 (qu m at_ n).2:=by
 have hp0:Gk (.sl [.str]) (.sl m.nV):=nd.xu Vk
 refine⟨n.toNat+1, ?_⟩
 unfold XE QB qu
 cases hw:within m at_ n
 ·rfl
 ·obtain⟨p1,p2,p3,p4,p5⟩:=nmy hp0 hw
  obtain⟨a,rfl⟩:=Int.eq_ofNat_of_zero_le p4
  obtain⟨n,rfl⟩:=Int.eq_ofNat_of_zero_le p3
  have hmk:xo 1 0 (n:Int)=true:=by simp only[xo,Bool.and_eq_true,decide_eq_true_eq,Int.toNat_natCast];omega
  simp only[Bool.not_true,cond_false,hmk,nc,cond_true,Int.toNat_natCast]
  have key:∀(q N' a r:Nat) (o:Bytes),r≤q→q<N'→o.length+r=n→a+r≤128*m.nV.length→∀M,xK jK k_ M (n:Int) m.nV N' (a:Int) (ofStr o)=k_ (o++noc q a r m.nV) true:=by
   intro q
   induction q with
   | zero=>
    intro N' a r o h1 h2 h3 h4 M
    obtain⟨N',rfl⟩:∃q,N'=q+1:=⟨N' - 1,by omega⟩
    rw[S3]
    have hd:decide (len (ofStr o)<(n:Int))=false:=decide_eq_false (by simp only[len,QX];omega)
    simp only[vn,hd,cond_false,noc,List.append_nil,YI]
   | succ q ih=>
    intro N' a r o h1 h2 h3 h4 M
    obtain⟨N',rfl⟩:∃q,N'=q+1:=⟨N' - 1,by omega⟩
    rw[S3]
    by_cases hr:0<r
    ·have hd:decide (len (ofStr o)<(n:Int))=true:=decide_eq_true (by simp only[len,QX];omega)
     have hpg:a / 128<m.nV.length:=by omega
     obtain⟨p,e1,e2⟩:=p1 (a / 128) hpg
     have w1:nK (((a / 128:Nat):Int))=((a / 128:Nat):Int):=nF (by omega) (by omega)
     have c1:ue 128 (nK (nK (((a % 128:Nat):Int)+(n:Int)) - len (ofStr o)))=((a % 128+min r (128 - a % 128):Nat):Int):=by
      rw[nF (n:=((a % 128:Nat):Int)+(n:Int)) (by omega) (by omega)]
      simp only[len,QX]
      rw[nF (by omega) (by omega)]
      simp only[ue]
      split<;>omega
     have s1:uP p ((a % 128:Nat):Int) ((a % 128+min r (128 - a % 128):Nat):Int)=PA m.nV a r:=by
      unfold uP PA
      rw[e1,nob,Int.toNat_natCast,Int.toNat_natCast,List.drop_take]
      congr 1
      omega
     have g1:QY p ((a % 128:Nat):Int) ((a % 128+min r (128 - a % 128):Nat):Int)=true:=by simp only[QY,Bool.and_eq_true,decide_eq_true_eq];omega
     have hl:=njU p1 (n:=r) hpg
     have g2:(decide (((ofStr o).length+(PA m.nV a r).length)*1≤140737488355328) && decide ((ofStr o).length+(PA m.nV a r).length≤9223372036854775807))=true:=by simp only[QX,Bool.and_eq_true,decide_eq_true_eq];omega
     have w2:nK ((a:Int)+len (PA m.nV a r))=((a+min r (128 - a % 128):Nat):Int):=by simp only[len,hl];rw[nF (by omega) (by omega)];omega
     have eo:ofStr o++ofStr (PA m.nV a r)=ofStr (o++PA m.nV a r):=by simp [ofStr]
     have this:=ih N' (a+min r (128 - a % 128)) (r - min r (128 - a % 128)) (o++PA m.nV a r) (by omega) (by omega) (by rw[List.length_append,hl];omega) (by omega) M
     unfold noc
     rw[decide_eq_true hr,cond_true,←List.append_assoc]
     simp only[vn,hd,nxa,nxb,w1,nT hpg,Int.toNat_natCast,e1,nob,c1,s1,g1,g2,w2,eo,nc,cond_true]
     exact this
    ·have hd:decide (len (ofStr o)<(n:Int))=false:=decide_eq_false (by simp only[len,QX];omega)
     unfold noc
     simp only[vn,hd,decide_eq_false hr,cond_false,List.append_nil,YI]
  exact key n (n+1) a n [] (Nat.le_refl _) (by omega) (by simp) (by omega) _
def vC (k_:Bytes→Bool→α) (qi:Rows) (ov:Int→Int→Bytes→α) (vO n_1:Int) (nD:Bytes):α:=
 let z0:Int:=ue n_1 (nK (128 - (Int.tmod vO 128)))
 let z1:Int:=nK ((Int.tmod vO 128)+z0)
 let z2:Bytes:=uP (rS (nth qi (Int.toNat (nK (Int.tdiv vO 128)))) 0) (Int.tmod vO 128) z1
 bif decide (0<n_1) then
  bif DF (DF (DF true (idx (nK (Int.tdiv vO 128)) qi)) (QY (rS (nth qi (Int.toNat (nK (Int.tdiv vO 128)))) 0) (Int.tmod vO 128) z1)) (oK nD z2) then
   ov (nK (vO+z0)) (nK (n_1 - z0)) (nD++z2)
  else jK
 else k_ nD true
def ya (k_:Bytes→Bool→α) (N:Nat) (qi:Rows) (m_:Nat):Int→Int→Bytes→α:=
 Nat.rec (motive:=fun _=>Int→Int→Bytes→α) (fun _ _ _=>jK) (fun _ ov=>vC jK k_ qi ov) m_
theorem Th (k_:Bytes→Bool→α) (N:Nat) (qi:Rows) (m_:Nat):ya jK k_ N qi (m_+1)=vC jK k_ qi (ya jK k_ N qi m_):=rfl
def Rq {α:Type} (jK:α) (k_:Bytes→Bool→α) (l0:Rows→Int→Int→Bytes→α) (m:nd) (at_ n:Int):α:=
 bif !(within m at_ n) then k_ [] false
 else l0 m.nV at_ n []
def Yy (k_:Bytes→Bool→α) (N:Nat) (m:nd) (at_ n:Int):α:=Rq jK k_ (fun qi=>ya jK k_ N qi N) m at_ n
theorem nmh (k_:Bytes→Bool→α) (m:nd) (at_ n:Int) (Vk:jI nd.ct m.enc):∃N,Yy jK k_ N m at_ n=k_ (qu m at_ n).1 (qu m at_ n).2:=by
 have hp0:Gk (.sl [.str]) (.sl m.nV):=nd.xu Vk
 refine⟨n.toNat+1, ?_⟩
 unfold Yy Rq qu
 cases hw:within m at_ n
 ·rfl
 ·obtain⟨p1,p2,p3,p4,p5⟩:=nmy hp0 hw
  obtain⟨a,rfl⟩:=Int.eq_ofNat_of_zero_le p4
  obtain⟨n,rfl⟩:=Int.eq_ofNat_of_zero_le p3
  simp only[Bool.not_true,cond_false,Int.toNat_natCast]
  have key:∀(q N' a r:Nat) (o:Bytes),r≤q→q<N'→o.length+r≤8192→a+r≤128*m.nV.length→∀M,ya jK k_ M m.nV N' (a:Int) (r:Int) o=k_ (o++noc q a r m.nV) true:=by
   intro q
   induction q with
   | zero=>
    intro N' a r o h1 h2 h3 h4 M
    obtain⟨N',rfl⟩:∃q,N'=q+1:=⟨N' - 1,by omega⟩
    rw[Th]
    have hd:decide (0<(r:Int))=false:=decide_eq_false (by omega)
    simp only[vC,hd,cond_false,noc,List.append_nil]
   | succ q ih=>
    intro N' a r o h1 h2 h3 h4 M
    obtain⟨N',rfl⟩:∃q,N'=q+1:=⟨N' - 1,by omega⟩
    rw[Th]
    by_cases hr:0<r
    ·have hd:decide (0<(r:Int))=true:=decide_eq_true (by omega)
     have hpg:a / 128<m.nV.length:=by omega
     obtain⟨p,e1,e2⟩:=p1 (a / 128) hpg
     have w1:nK (((a / 128:Nat):Int))=((a / 128:Nat):Int):=nF (by omega) (by omega)
     have c1:ue (r:Int) (nK (128 - ((a % 128:Nat):Int)))=((min r (128 - a % 128):Nat):Int):=by
      rw[nF (by omega) (by omega)]
      simp only[ue]
      split<;>omega
     have c2:nK (((a % 128:Nat):Int)+((min r (128 - a % 128):Nat):Int))=((a % 128+min r (128 - a % 128):Nat):Int):=by rw[nF (by omega) (by omega)];omega
     have s1:uP p ((a % 128:Nat):Int) ((a % 128+min r (128 - a % 128):Nat):Int)=PA m.nV a r:=by
      unfold uP PA
      rw[e1,nob,Int.toNat_natCast,Int.toNat_natCast,List.drop_take]
      congr 1
      omega
     have g1:QY p ((a % 128:Nat):Int) ((a % 128+min r (128 - a % 128):Nat):Int)=true:=by simp only[QY,Bool.and_eq_true,decide_eq_true_eq];omega
     have hl:=njU p1 (n:=r) hpg
     have g2:oK o (PA m.nV a r)=true:=Pm (by omega)
     have w2:nK ((a:Int)+((min r (128 - a % 128):Nat):Int))=((a+min r (128 - a % 128):Nat):Int):=by rw[nF (by omega) (by omega)];omega
     have w3:nK ((r:Int) - ((min r (128 - a % 128):Nat):Int))=((r - min r (128 - a % 128):Nat):Int):=by rw[nF (by omega) (by omega)];omega
     have this:=ih N' (a+min r (128 - a % 128)) (r - min r (128 - a % 128)) (o++PA m.nV a r) (by omega) (by omega) (by rw[List.length_append,hl];omega) (by omega) M
     unfold noc
     rw[decide_eq_true hr,cond_true,←List.append_assoc]
     simp only[vC,hd,nxa,nxb,w1,nT hpg,Int.toNat_natCast,e1,nob,c1,c2,s1,g1,g2,w2,w3,nc,cond_true]
     exact this
    ·have hd:decide (0<(r:Int))=false:=decide_eq_false (by omega)
     unfold noc
     simp only[vC,hd,decide_eq_false hr,cond_false,List.append_nil]
  exact key n (n+1) a n [] (Nat.le_refl _) (by omega) (by simp;omega) (by omega) _
def Ox (k_:Bytes→Bool→α) (x:Int) (qi om:Rows) (ov:Bytes→Int→α) (nD:Bytes) (nZ:Int):α:=
 let z0:Bytes:=(qu (⟨qi⟩:nd) (rI (nth om (Int.toNat nZ)) 0) (rI (nth om (Int.toNat nZ)) 1)).1
 bif decide (nZ<x) then
  bif DF (DF true (idx nZ om)) (inl (Int.toNat nZ) om) then
   bif DF true (oK nD z0) then
    ov (nD++z0) (nK (nZ+1))
   else jK
  else jK
 else k_ nD true
def vR (k_:Bytes→Bool→α) (N:Nat) (x:Int) (qi om:Rows) (m_:Nat):Bytes→Int→α:=
 Nat.rec (motive:=fun _=>Bytes→Int→α) (fun _ _=>jK) (fun _ ov=>Ox jK k_ x qi om ov) m_
theorem Xr (k_:Bytes→Bool→α) (N:Nat) (x:Int) (qi om:Rows) (m_:Nat):vR jK k_ N x qi om (m_+1)=Ox jK k_ x qi om (vR jK k_ N x qi om m_):=rfl
def Vq {α:Type} (jK:α) (k_:Bytes→Bool→α) (l0:Int→Rows→Rows→Bytes→Int→α) (list_:Rows) (m:nd) (domain at_ n:Int):α:=
 let z0:Rows×Bool:=uI list_ m domain at_ n false
 bif !z0.2 then k_ [] false
 else l0 (len z0.1) m.nV z0.1 [] 0
def neH (k_:Bytes→Bool→α) (N:Nat) (list_:Rows) (m:nd) (domain at_ n:Int):α:=Vq jK k_ (fun x qi om=>vR jK k_ N x qi om N) list_ m domain at_ n
def nyM (m:nd) (R:Rows):Bytes:=R.foldl (fun o r=>o++(qu m (rI r 0) (rI r 1)).1) []
def ua (list_:Rows) (m:nd) (domain at_ n:Int):Bytes×Bool:=bif !(uI list_ m domain at_ n false).2 then ([],false) else (nyM m (uI list_ m domain at_ n false).1,true)
theorem nsy {σ:Type} (g:σ→List DC→σ):∀(l p:Rows) (s:σ),itN (fun i s=>g s (nth (p++l) i)) l.length p.length s=l.foldl g s:=U9 g
theorem nts {m:nd} (hw:Gk (.sl [.str]) (.sl m.nV)) {Q:Nat→Prop} :∀(R:Rows) (n:Nat) (o:Bytes),YK Q R n→(R.foldl (fun o r=>o++(qu m (rI r 0) (rI r 1)).1) o).length≤o.length+n
 | [],n,o,_=>Nat.le_add_right _ _
 | r::rs,n,o,h=>by
  obtain⟨p,k,rfl,k1,k2,_,_,k5⟩:=h
  have h1:=nts hw rs (n - k) (o++(qu m (p:Int) (k:Int)).1) k5
  have h2:=(zf (m:=m) (a:=(p:Int)) (n:=(k:Int)) hw).2
  rw[List.length_append] at h1
  rw[List.foldl_cons]
  rw[Int.toNat_natCast] at h2
  exact Nat.le_trans h1 (by omega)
theorem SW {list_:Rows} {m:nd} {domain at_ n:Int} (hw:Gk (.sl [.str]) (.sl m.nV)):(ua list_ m domain at_ n).1.length≤n.toNat∧(ua list_ m domain at_ n).1.length≤4096:=by
 unfold ua
 cases hr:(uI list_ m domain at_ n false).2
 ·exact⟨Nat.zero_le _,Nat.zero_le _⟩
 ·obtain⟨_,_,h3,h4⟩:=nw2 hw hr
  have:=nts hw _ _ [] h3
  simp only[Bool.not_true,cond_false]
  unfold nyM
  simp only[List.length_nil] at this
  omega
theorem nr_ (k_:Bytes→Bool→α) (list_:Rows) (m:nd) (domain at_ n:Int) (Vk:jI nd.ct m.enc):∃N,neH jK k_ N list_ m domain at_ n=k_ (ua list_ m domain at_ n).1 (ua list_ m domain at_ n).2:=by
 have hp0:Gk (.sl [.str]) (.sl m.nV):=nd.xu Vk
 refine⟨(uI list_ m domain at_ n false).1.length+1, ?_⟩
 unfold neH Vq ua
 dsimp only
 cases hr:(uI list_ m domain at_ n false).2
 ·rfl
 ·obtain⟨g1,g2,g3⟩:=no1 hp0 hr
  simp only[Bool.not_true,cond_false]
  generalize (uI list_ m domain at_ n false).1=R at g3 ⊢
  have hM1:(⟨m.nV⟩:nd)=m:=rfl
  refine (yq R.length (fun n i o=>vR jK k_ (R.length+1) (len R) m.nV R n o i) (fun i o=>o++(qu m (rI (nth R i) 0) (rI (nth R i) 1)).1) (fun o=>k_ o true) (fun i o=>o.length≤8192*i) ?_ ?_ ?_ (R.length+1) [] (by simp) (by omega)).trans ?_
  ·intro i o hi ho
   have:=(zf (a:=rI (nth R i) 0) (n:=rI (nth R i) 1) hp0).1
   rw[List.length_append]
   omega
  ·intro n i o hi ho
   show vR jK k_ (R.length+1) (len R) m.nV R (n+1) o (i:Int)=_
   rw[Xr]
   have hl:=(zf (a:=rI (nth R i) 0) (n:=rI (nth R i) 1) hp0).1
   have g5:oK o (qu m (rI (nth R i) 0) (rI (nth R i) 1)).1=true:=Pm (by omega)
   have w1:nK ((i:Int)+1)=(i:Int)+1:=nF (by omega) (by omega)
   simp only[Ox,oV hi,nT hi,vL hi,Int.toNat_natCast,hM1,g5,w1,nc,cond_true]
  ·intro n o ho
   show vR jK k_ (R.length+1) (len R) m.nV R (n+1) o (R.length:Int)=_
   rw[Xr]
   simp only[Ox,nQ,cond_false]
  ·exact congrArg (fun o=>k_ o true) (nsy (fun (o:Bytes) (r:List DC)=>o++(qu m (rI r 0) (rI r 1)).1) R [] [])
def O2 (k_:Bytes→Bool→α) (qi starts tg:Rows) (ov:Bytes→Int→α) (nD:Bytes) (k:Int):α:=
 let z0:Bytes:=(qu (⟨qi⟩:nd) (rI (nth starts (Int.toNat k)) 0) (rI (nth tg (Int.toNat k)) 0)).1
 bif decide (k<len starts) then
  bif DF (DF (DF (DF true (idx k starts)) (inl (Int.toNat k) starts)) (idx k tg)) (inl (Int.toNat k) tg) then
   bif DF true (oK nD z0) then
    ov (nD++z0) (nK (k+1))
   else jK
  else jK
 else k_ nD true
def v9 (k_:Bytes→Bool→α) (N:Nat) (qi starts tg:Rows) (m_:Nat):Bytes→Int→α:=
 Nat.rec (motive:=fun _=>Bytes→Int→α) (fun _ _=>jK) (fun _ ov=>O2 jK k_ qi starts tg ov) m_
theorem Ys (k_:Bytes→Bool→α) (N:Nat) (qi starts tg:Rows) (m_:Nat):v9 jK k_ N qi starts tg (m_+1)=O2 jK k_ qi starts tg (v9 jK k_ N qi starts tg m_):=rfl
def WO {α:Type} (jK:α) (k_:Bytes→Bool→α) (l0:Rows→Rows→Rows→Bytes→Int→α) (list_:Rows) (m:nd) (domain at_ n:Int):α:=
 let z0:Rows×Rows×Bool:=QK list_ m domain at_ n false
 bif !z0.2.2 then k_ [] false
 else l0 m.nV z0.1 z0.2.1 [] 0
def nf1 (k_:Bytes→Bool→α) (N:Nat) (list_:Rows) (m:nd) (domain at_ n:Int):α:=WO jK k_ (fun qi starts tg=>v9 jK k_ N qi starts tg N) list_ m domain at_ n
theorem ntw (k_:Bytes→Bool→α) (list_:Rows) (m:nd) (domain at_ n:Int) (Vk:jI nd.ct m.enc):∃N,nf1 jK k_ N list_ m domain at_ n=k_ (ua list_ m domain at_ n).1 (ua list_ m domain at_ n).2:=by
 have hp0:Gk (.sl [.str]) (.sl m.nV):=nd.xu Vk
 refine⟨(uI list_ m domain at_ n false).1.length+1, ?_⟩
 unfold nf1 WO ua QK
 dsimp only
 cases hr:(uI list_ m domain at_ n false).2
 ·rfl
 ·obtain⟨g1,g2,g3⟩:=no1 hp0 hr
  simp only[Bool.not_true,cond_false]
  generalize (uI list_ m domain at_ n false).1=R at g3 ⊢
  have hM1:(⟨m.nV⟩:nd)=m:=rfl
  refine (yq R.length (fun n i o=>v9 jK k_ (R.length+1) m.nV (R.map pF0) (R.map pF1) n o i) (fun i o=>o++(qu m (rI (nth R i) 0) (rI (nth R i) 1)).1) (fun o=>k_ o true) (fun i o=>o.length≤8192*i) ?_ ?_ ?_ (R.length+1) [] (by simp) (by omega)).trans ?_
  ·intro i o hi ho
   have:=(zf (a:=rI (nth R i) 0) (n:=rI (nth R i) 1) hp0).1
   rw[List.length_append]
   omega
  ·intro n i o hi ho
   show v9 jK k_ (R.length+1) m.nV (R.map pF0) (R.map pF1) (n+1) o (i:Int)=_
   rw[Ys]
   have hl:=(zf (a:=rI (nth R i) 0) (n:=rI (nth R i) 1) hp0).1
   have g5:oK o (qu m (rI (nth R i) 0) (rI (nth R i) 1)).1=true:=Pm (by omega)
   have w1:nK ((i:Int)+1)=(i:Int)+1:=nF (by omega) (by omega)
   have Lx:∀f:List DC→List DC,i<(R.map f).length:=fun f=>by rw[List.length_map];exact hi
   simp only[O2,oV (Lx _),nT (Lx _),vL (Lx _),Int.toNat_natCast,ny9 _ hi,pF0,pF1,nyL,hM1,g5,w1,nc,cond_true]
  ·intro n o ho
   show v9 jK k_ (R.length+1) m.nV (R.map pF0) (R.map pF1) (n+1) o (R.length:Int)=_
   rw[Ys]
   have hz:decide ((R.length:Int)<len (R.map pF0))=false:=decide_eq_false (by simp only[len,List.length_map];omega)
   simp only[O2,hz,cond_false]
  ·exact congrArg (fun o=>k_ o true) (nsy (fun (o:Bytes) (r:List DC)=>o++(qu m (rI r 0) (rI r 1)).1) R [] [])
def ngs (k_:nd→α) (m:nd):α:=
 bif DF true (oT 16 [] m.nV) then
  k_ m
 else jK
theorem ntZ (k_:nd→α) (m:nd) (aF:nl5 m=true):ngs jK k_ m=k_ (oQ m):=by
 have GW:nl5 m=true:=aF
 unfold ngs
 rw[qH (show sm m.nV=true from GW) (show 16≤8388608 by omega)]
 rfl
def ngH (k_:nH→α) (f:nH):α:=
 bif DF true (oT 8 [] f.qd) then
  k_ f
 else jK
def nkq (f:nH):Bool:=sm f.qd
theorem nt9 (k_:nH→α) (f:nH) (aF:nkq f=true):ngH jK k_ f=k_ (oQ f):=by
 have GW:nkq f=true:=aF
 unfold ngH
 rw[qH (show sm f.qd=true from GW) (show 8≤8388608 by omega)]
 rfl
def XL (k_:nH→α) (f:nH):α:=
 bif DF true (sm f.qd) then
  k_ (⟨f.Mac,f.ql,oQ f.qd⟩:nH)
 else jK
theorem nkP (k_:nH→α) (f:nH) (aF:nkq f=true):XL jK k_ f=k_ (oQ f):=by
 have GW:nkq f=true:=aF
 unfold XL
 rw[show sm f.qd=true from GW]
 rfl
def ngl (k_:nh→α) (t:nh):α:=
 bif DF true (oT 56 [] t.nI) then
  k_ t
 else jK
def nmw (t:nh):Bool:=sm t.nI
theorem ntS (k_:nh→α) (t:nh) (aF:nmw t=true):ngl jK k_ t=k_ (oQ t):=by
 have GW:nmw t=true:=aF
 unfold ngl
 rw[qH (show sm t.nI=true from GW) (show 56≤8388608 by omega)]
 rfl
def Zv (k_:nh→α) (t:nh):α:=
 bif DF true (oT 56 [] t.nI) then
  k_ t
 else jK
theorem nmQ (k_:nh→α) (t:nh) (aF:nmw t=true):Zv jK k_ t=k_ (oQ t):=by
 have GW:nmw t=true:=aF
 unfold Zv
 rw[qH (show sm t.nI=true from GW) (show 56≤8388608 by omega)]
 rfl
def XP (k_:nJ→α) (s:nJ):α:=
 bif DF true (sm s.Table) then
  k_ (⟨s.Key,oQ s.Table⟩:nJ)
 else jK
def nw9 (s:nJ):Bool:=sm s.Table
theorem nkT (k_:nJ→α) (s:nJ) (aF:nw9 s=true):XP jK k_ s=k_ (oQ s):=by
 have GW:nw9 s=true:=aF
 unfold XP
 rw[show sm s.Table=true from GW]
 rfl
def ngq (k_:nj→α) (s:nj):α:=
 bif DF (DF (DF true (oT 72 [] s.oY)) (nmw s.Table)) (oT 8 [] s.oO.Table) then
  k_ (⟨s.oY,oQ s.Table,s.oO⟩:nj)
 else jK
def na7 (s:nj):Bool:=sm s.oY && (sm s.Table.nI && sm s.oO.Table)
theorem ntX (k_:nj→α) (s:nj) (aF:na7 s=true):ngq jK k_ s=k_ (oQ s):=by
 have GW:na7 s=true:=aF
 unfold ngq
 simp only[na7,Bool.and_eq_true] at GW
 obtain⟨h1,h2,h3⟩:=GW
 rw[qH h1 (show 72≤8388608 by omega),qH h3 (show 8≤8388608 by omega),show nmw s.Table=true from h2]
 rfl
def Ut (k_:nj→α) (s:nj):α:=
 bif DF (DF (DF true (oT 72 [] s.oY)) (nmw s.Table)) (nw9 s.oO) then
  k_ (⟨s.oY,oQ s.Table,oQ s.oO⟩:nj)
 else jK
theorem nhf (k_:nj→α) (s:nj) (aF:na7 s=true):Ut jK k_ s=k_ (oQ s):=by
 have GW:na7 s=true:=aF
 unfold Ut
 simp only[na7,Bool.and_eq_true] at GW
 obtain⟨h1,h2,h3⟩:=GW
 rw[qH h1 (show 72≤8388608 by omega),show nmw s.Table=true from h2,show nw9 s.oO=true from h3]
 rfl
def Us (k_:Rows→α) (list_:Rows):α:=
 bif DF true (oT 32 [] list_) then
  k_ list_
 else jK
theorem nhd (k_:Rows→α) (list_:Rows) (aF:sm list_=true):Us jK k_ list_=k_ (oQ list_):=by
 have GW:sm list_=true:=aF
 unfold Us
 rw[qH (show sm list_=true from GW) (show 32≤8388608 by omega)]
 rfl
def VN (k_:Rows→α) (list_:Rows):α:=
 bif DF true (oT 72 [] list_) then
  k_ list_
 else jK
theorem njh (k_:Rows→α) (list_:Rows) (aF:sm list_=true):VN jK k_ list_=k_ (oQ list_):=by
 have GW:sm list_=true:=aF
 unfold VN
 rw[qH (show sm list_=true from GW) (show 72≤8388608 by omega)]
 rfl
def zY (k_:Rows→α) (list_:Rows) (nZ:Int) (ov:Int→Rows→α) (om:Int) (nD:Rows):α:=
 bif decide (om<nZ) then
  bif DF true (idx om list_) then
   bif DF (DF true (sm (rR (nth list_ (Int.toNat om)) 2))) (oT 40 nD ([[.int (rI (nth list_ (Int.toNat om)) 0),.int (rI (nth list_ (Int.toNat om)) 1),.sl (oQ (rR (nth list_ (Int.toNat om)) 2))]])) then
    ov (nK (om+1)) (nD++([[.int (rI (nth list_ (Int.toNat om)) 0),.int (rI (nth list_ (Int.toNat om)) 1),.sl (oQ (rR (nth list_ (Int.toNat om)) 2))]]))
   else jK
  else jK
 else k_ nD
def vg (k_:Rows→α) (N:Nat) (list_:Rows) (nZ:Int) (m_:Nat):Int→Rows→α:=
 Nat.rec (motive:=fun _=>Int→Rows→α) (fun _ _=>jK) (fun _ ov=>zY jK k_ list_ nZ ov) m_
theorem VL (k_:Rows→α) (N:Nat) (list_:Rows) (nZ:Int) (m_:Nat):vg jK k_ N list_ nZ (m_+1)=zY jK k_ list_ nZ (vg jK k_ N list_ nZ m_):=rfl
def TG {α:Type} (jK:α) (k_:Rows→α) (l0:Int→Int→Rows→α) (list_:Rows):α:=
 l0 (len list_) 0 []
def ncM (k_:Rows→α) (N:Nat) (list_:Rows):α:=TG jK k_ (fun nZ=>vg jK k_ N list_ nZ N) list_
theorem npS (k_:Rows→α) (list_:Rows) (pg:Gk (.sl [.i,.i,.sl [.i]]) (.sl list_)) (aF:uf list_=true):∃N,ncM jK k_ N list_=k_ (oQ list_):=by
 obtain⟨hl,hw⟩:=oy pg
 have GW:=aF
 simp only[uf,Bool.and_eq_true,List.all_eq_true] at GW
 obtain⟨s1,s2⟩:=GW
 have l1:=t_ s1
 refine⟨list_.length+1, ?_⟩
 unfold ncM TG
 refine (yq list_.length (fun n i o=>vg jK k_ (list_.length+1) list_ (len list_) n i o) (fun i o=>o++[nth list_ i]) k_ (fun i o=>o.length≤i) ?_ ?_ ?_ (list_.length+1) [] (by simp) (by omega)).trans ?_
 ·intro i o hi ho
  simp only[List.length_append,List.length_cons,List.length_nil];omega
 ·intro n i o hi ho
  show vg jK k_ (list_.length+1) list_ (len list_) (n+1) (i:Int) o=_
  rw[VL]
  have er:[DC.int (rI (nth list_ i) 0),DC.int (rI (nth list_ i) 1),DC.sl (rR (nth list_ i) 2)]=nth list_ i:=pe.eta (hw _ (uB hi))
  have hb:sm (rR (nth list_ i) 2)=true:=s2 _ (uB hi)
  have iV:oT 8 [] (rR (nth list_ i) 2)=true:=qH hb (show 8≤8388608 by omega)
  have dV:∀x:List DC,oT 40 o [x]=true:=fun x=>qY (by simp only[List.length_cons,List.length_nil];omega) (by omega)
  simp only[zY,oQ,oV hi,nT hi,hb,dV,er,n_ hi hl,Int.toNat_natCast,nc,nn,cond_true]
 ·intro n o ho
  show vg jK k_ (list_.length+1) list_ (len list_) (n+1) (list_.length:Int) o=_
  rw[VL]
  simp only[zY,nQ,cond_false]
 ·exact congrArg k_ ((U9 (fun (o:Rows) (r:List DC)=>o++[r]) list_ [] []).trans ((foldl_push (fun r=>r) list_ []).trans (by simp [oQ])))
def Pg (k_:ng→α) (yg:Rows) (nD po pq pr pW pX pY pw:Int) (rF:Rows) (ov:Int→Rows→α) (k:Int) (wX:Rows):α:=
 bif decide (k<len yg) then
  bif DF true (idx k yg) then
   bif DF (DF true (oT 8 [] (rR (nth yg (Int.toNat k)) 2))) (oT 40 wX ([[.int (rI (nth yg (Int.toNat k)) 0),.int (rI (nth yg (Int.toNat k)) 1),.sl (rR (nth yg (Int.toNat k)) 2)]])) then
    ov (nK (k+1)) (wX++([[.int (rI (nth yg (Int.toNat k)) 0),.int (rI (nth yg (Int.toNat k)) 1),.sl (rR (nth yg (Int.toNat k)) 2)]]))
   else jK
  else jK
 else k_ (⟨(⟨nD,po,pq,pr⟩:ny),(⟨pW,pX,pY,rF⟩:nE),wX,pw⟩:ng)
def uK (k_:ng→α) (N:Nat) (yg:Rows) (nD po pq pr pW pX pY pw:Int) (rF:Rows) (m_:Nat):Int→Rows→α:=
 Nat.rec (motive:=fun _=>Int→Rows→α) (fun _ _=>jK) (fun _ ov=>Pg jK k_ yg nD po pq pr pW pX pY pw rF ov) m_
theorem YF (k_:ng→α) (N:Nat) (yg:Rows) (nD po pq pr pW pX pY pw:Int) (rF:Rows) (m_:Nat):uK jK k_ N yg nD po pq pr pW pX pY pw rF (m_+1)=Pg jK k_ yg nD po pq pr pW pX pY pw rF (uK jK k_ N yg nD po pq pr pW pX pY pw rF m_):=rfl
def Xd (k_:ng→α) (l0:Rows→Int→Int→Int→Int→Int→Int→Int→Int→Rows→Int→Rows→α) (q:ng):α:=
 bif DF true (QZ q.n7) then
  l0 q.ni q.Ring.oR q.Ring.nR q.Ring.Head q.Ring.pV ((oQ q.n7).oR) ((oQ q.n7).nR) ((oQ q.n7).Count) q.Next ((oQ q.n7).py) 0 []
 else jK
def ngD (k_:ng→α) (N:Nat) (q:ng):α:=Xd jK k_ (fun yg nD po pq pr pW pX pY pw rF=>uK jK k_ N yg nD po pq pr pW pX pY pw rF N) q
def nbP (q:ng):Bool:=sm q.n7.py && uf q.ni
theorem nt6 (k_:ng→α) (q:ng) (h_q:jI ng.ct q.enc) (aF:nbP q=true):∃N,ngD jK k_ N q=k_ (oQ q):=by
 obtain⟨hl,hw⟩:=oy (ng.zF h_q)
 have GW:=aF
 simp only[nbP,uf,Bool.and_eq_true,List.all_eq_true] at GW
 obtain⟨s0,s1,s2⟩:=GW
 have l1:=t_ s1
 refine⟨q.ni.length+1, ?_⟩
 unfold ngD Xd
 rw[show QZ q.n7=true from s0]
 have key:∀(x0 x1 x2 x3 x4 x5 x6 x7:Int) (F:Rows),uK jK k_ (q.ni.length+1) q.ni x0 x1 x2 x3 x4 x5 x6 x7 F (q.ni.length+1) 0 []=k_ (⟨⟨x0,x1,x2,x3⟩,⟨x4,x5,x6,F⟩,q.ni,x7⟩:ng):=by
  intro x0 x1 x2 x3 x4 x5 x6 x7 F
  refine (yq q.ni.length (fun n i o=>uK jK k_ (q.ni.length+1) q.ni x0 x1 x2 x3 x4 x5 x6 x7 F n i o) (fun i o=>o++[nth q.ni i]) (fun o=>k_ (⟨⟨x0,x1,x2,x3⟩,⟨x4,x5,x6,F⟩,o,x7⟩:ng)) (fun i o=>o.length≤i) ?_ ?_ ?_ (q.ni.length+1) [] (by simp) (by omega)).trans ?_
  ·intro i o hi ho
   simp only[List.length_append,List.length_cons,List.length_nil];omega
  ·intro n i o hi ho
   show uK jK k_ (q.ni.length+1) q.ni x0 x1 x2 x3 x4 x5 x6 x7 F (n+1) (i:Int) o=_
   rw[YF]
   have er:[DC.int (rI (nth q.ni i) 0),DC.int (rI (nth q.ni i) 1),DC.sl (rR (nth q.ni i) 2)]=nth q.ni i:=pe.eta (hw _ (uB hi))
   have hb:sm (rR (nth q.ni i) 2)=true:=s2 _ (uB hi)
   have iV:oT 8 [] (rR (nth q.ni i) 2)=true:=qH hb (show 8≤8388608 by omega)
   have dV:∀x:List DC,oT 40 o [x]=true:=fun x=>qY (by simp only[List.length_cons,List.length_nil];omega) (by omega)
   simp only[Pg,oV hi,nT hi,iV,dV,er,n_ hi hl,Int.toNat_natCast,nc,nn,cond_true]
  ·intro n o ho
   show uK jK k_ (q.ni.length+1) q.ni x0 x1 x2 x3 x4 x5 x6 x7 F (n+1) (q.ni.length:Int) o=_
   rw[YF]
   simp only[Pg,nQ,cond_false]
  ·exact congrArg (fun o=>k_ (⟨⟨x0,x1,x2,x3⟩,⟨x4,x5,x6,F⟩,o,x7⟩:ng)) ((U9 (fun (o:Rows) (r:List DC)=>o++[r]) q.ni [] []).trans ((foldl_push (fun r=>r) q.ni []).trans (by simp)))
 exact key _ _ _ _ _ _ _ _ _
def nh8 (k_:ng→α) (q:ng):α:=
 bif DF (DF true (QZ q.n7)) (uf q.ni) then
  k_ (⟨q.Ring,oQ q.n7,oQ q.ni,q.Next⟩:ng)
 else jK
theorem nuz (k_:ng→α) (q:ng) (aF:nbP q=true):nh8 jK k_ q=k_ (oQ q):=by
 have GW:=aF
 simp only[nbP,Bool.and_eq_true] at GW
 obtain⟨s0,s1⟩:=GW
 unfold nh8
 rw[show QZ q.n7=true from s0,s1]
 rfl
def zX (k_:nx→α) (x:Rows) (nZ:Int) (pB qJ:Rows) (qR:Int) (qS:Bool) (qK pL pM:Rows) (pR:Bytes) (pN qL qM qN qO:Rows) (nD po pq pr pW pX pY pw:Int) (qv:Bool) (qw qx qy qz qA:Int) (rY pS pT pc pd:Rows) (ov:Int→Rows→α) (om:Int) (vw:Rows):α:=
 let z0:nj:=(⟨pL,(⟨pM⟩:nh),(⟨pR,pN⟩:nJ)⟩:nj)
 bif decide (om<nZ) then
  bif DF true (idx om x) then
   bif DF (DF true (QZ (nE.na (nth x (Int.toNat om)) 0))) (oT 48 vw [nE.enc (oQ (nE.na (nth x (Int.toNat om)) 0))]) then
    ov (nK (om+1)) (vw++[nE.enc (oQ (nE.na (nth x (Int.toNat om)) 0))])
   else jK
  else jK
 else bif DF true (oT 40 [] pB) then
   bif DF true (oT 1 [] qJ) then
    bif DF true (nkq (⟨qR,qS,qK⟩:nH)) then
     bif DF true (na7 z0) then
      bif DF true (sm qL) then
       bif DF true (sm qM) then
        bif DF true (sm qN) then
         bif DF true (sm qO) then
          k_ (⟨(⟨rY⟩:nd),pS,(⟨(⟨nD,po,pq,pr⟩:ny),(⟨pW,pX,pY,pT⟩:nE),pc,pw⟩:ng),pd,vw,pB,qJ,oQ (⟨qR,qS,qK⟩:nH),oQ z0,oQ qL,qv,oQ qM,oQ qN,oQ qO,(⟨qw,qx,qy,qz,qA⟩:oC)⟩:nx)
         else jK
        else jK
       else jK
      else jK
     else jK
    else jK
   else jK
  else jK
def tW (k_:nx→α) (N:Nat) (x:Rows) (nZ:Int) (pB qJ:Rows) (qR:Int) (qS:Bool) (qK pL pM:Rows) (pR:Bytes) (pN qL qM qN qO:Rows) (nD po pq pr pW pX pY pw:Int) (qv:Bool) (qw qx qy qz qA:Int) (rY pS pT pc pd:Rows) (m_:Nat):Int→Rows→α:=
 Nat.rec (motive:=fun _=>Int→Rows→α) (fun _ _=>jK) (fun _ ov=>zX jK k_ x nZ pB qJ qR qS qK pL pM pR pN qL qM qN qO nD po pq pr pW pX pY pw qv qw qx qy qz qA rY pS pT pc pd ov) m_
theorem VK (k_:nx→α) (N:Nat) (x:Rows) (nZ:Int) (pB qJ:Rows) (qR:Int) (qS:Bool) (qK pL pM:Rows) (pR:Bytes) (pN qL qM qN qO:Rows) (nD po pq pr pW pX pY pw:Int) (qv:Bool) (qw qx qy qz qA:Int) (rY pS pT pc pd:Rows) (m_:Nat):tW jK k_ N x nZ pB qJ qR qS qK pL pM pR pN qL qM qN qO nD po pq pr pW pX pY pw qv qw qx qy qz qA rY pS pT pc pd (m_+1)=zX jK k_ x nZ pB qJ qR qS qK pL pM pR pN qL qM qN qO nD po pq pr pW pX pY pw qv qw qx qy qz qA rY pS pT pc pd (tW jK k_ N x nZ pB qJ qR qS qK pL pM pR pN qL qM qN qO nD po pq pr pW pX pY pw qv qw qx qy qz qA rY pS pT pc pd m_):=rfl
def TE (k_:nx→α) (l0:Rows→Int→Rows→Rows→Int→Bool→Rows→Rows→Rows→Bytes→Rows→Rows→Rows→Rows→Rows→Int→Int→Int→Int→Int→Int→Int→Int→Bool→Int→Int→Int→Int→Int→Rows→Rows→Rows→Rows→Rows→Int→Rows→α) (h:nx):α:=
 bif DF true (nl5 h.oB) then
  bif DF true (sm h.Maps) then
   bif DF true (nbP h.Tx) then
    bif DF true (oT 248 [] h.Rx) then
     l0 h.oA (len h.oA) h.ou h.pk h.Filter.Mac h.Filter.ql h.Filter.qd h.nA.oY h.nA.Table.nI h.nA.oO.Key h.nA.oO.Table h.p6 h.vN h.oP h.pU (((oQ h.Tx).Ring).oR) (((oQ h.Tx).Ring).nR) (((oQ h.Tx).Ring).Head) (((oQ h.Tx).Ring).pV) (((oQ h.Tx).n7).oR) (((oQ h.Tx).n7).nR) (((oQ h.Tx).n7).Count) ((oQ h.Tx).Next) h.sF h.Counters.Frames h.Counters.Bad h.Counters.sR h.Counters.uQ h.Counters.PW ((oQ h.oB).nV) (oQ h.Maps) (((oQ h.Tx).n7).py) ((oQ h.Tx).ni) h.Rx 0 []
    else jK
   else jK
  else jK
 else jK
def ncG (k_:nx→α) (N:Nat) (h:nx):α:=TE jK k_ (fun x nZ pB qJ qR qS qK pL pM pR pN qL qM qN qO nD po pq pr pW pX pY pw qv qw qx qy qz qA rY pS pT pc pd=>tW jK k_ N x nZ pB qJ qR qS qK pL pM pR pN qL qM qN qO nD po pq pr pW pX pY pw qv qw qx qy qz qA rY pS pT pc pd N) h
theorem npN (k_:nx→α) (h:nx) (h_h:jI nx.ct h.enc) (aF:uR h=true):∃N,ncG jK k_ N h=k_ (oQ h):=by
 obtain⟨hl,hw⟩:=oy (nx.ngT h_h)
 have GW:uR h=true:=aF
 simp only[uR,Bool.and_eq_true] at GW
 obtain⟨s0,s1,s2,s3,s4,s5,s6,s7,s8,s9,s10,s11,s12,s13,s14,s15⟩:=GW
 simp only[nbF,Bool.and_eq_true,List.all_eq_true] at s5
 obtain⟨t1,t2⟩:=s5
 have l1:=t_ t1
 have m2:nbP h.Tx=true:=by simp only[nbP,s2,s3,Bool.and_self]
 have r4:oT 248 [] h.Rx=true:=qH s4 (by omega)
 refine⟨h.oA.length+1, ?_⟩
 unfold ncG TE
 rw[show nl5 h.oB=true from s0]
 simp only[m2,r4,s1,nc,cond_true]
 have key:∀(pB:Rows) (qJ:Rows) (qR:Int) (qS:Bool) (qK:Rows) (pL:Rows) (pM:Rows) (pR:Bytes) (pN:Rows) (qL:Rows) (qM:Rows) (qN:Rows) (qO:Rows) (nD:Int) (po:Int) (pq:Int) (pr:Int) (pW:Int) (pX:Int) (pY:Int) (pw:Int) (qv:Bool) (qw:Int) (qx:Int) (qy:Int) (qz:Int) (qA:Int) (rY:Rows) (pS:Rows) (pT:Rows) (pc:Rows) (pd:Rows),sm pB=true→sm qJ=true→sm qK=true→sm pL=true→sm pM=true→sm pN=true→sm qL=true→sm qM=true→sm qN=true→sm qO=true→
   tW jK k_ (h.oA.length+1) h.oA (len h.oA) pB qJ qR qS qK pL pM pR pN qL qM qN qO nD po pq pr pW pX pY pw qv qw qx qy qz qA rY pS pT pc pd (h.oA.length+1) 0 []=k_ (⟨(⟨rY⟩:nd),pS,(⟨(⟨nD,po,pq,pr⟩:ny),(⟨pW,pX,pY,pT⟩:nE),pc,pw⟩:ng),pd,h.oA,pB,qJ,(⟨qR,qS,qK⟩:nH),(⟨pL,(⟨pM⟩:nh),(⟨pR,pN⟩:nJ)⟩:nj),qL,qv,qM,qN,qO,(⟨qw,qx,qy,qz,qA⟩:oC)⟩:nx):=by
  intro pB qJ qR qS qK pL pM pR pN qL qM qN qO nD po pq pr pW pX pY pw qv qw qx qy qz qA rY pS pT pc pd q6 q7 q8 q9 q10 q11 q12 q13 q14 q15
  have u6:oT 40 [] pB=true:=qH q6 (by omega)
  have u7:oT 1 [] qJ=true:=qH q7 (by omega)
  have u8:nkq (⟨qR,qS,qK⟩:nH)=true:=q8
  have u9:na7 (⟨pL,(⟨pM⟩:nh),(⟨pR,pN⟩:nJ)⟩:nj)=true:=by simp only[na7,q9,q10,q11,Bool.and_self]
  have u12:oT 72 [] qL=true:=qH q12 (by omega)
  have u13:oT 16 [] qM=true:=qH q13 (by omega)
  have u14:oT 8 [] qN=true:=qH q14 (by omega)
  have u15:oT 8 [] qO=true:=qH q15 (by omega)
  refine (yq h.oA.length (fun n i o=>tW jK k_ (h.oA.length+1) h.oA (len h.oA) pB qJ qR qS qK pL pM pR pN qL qM qN qO nD po pq pr pW pX pY pw qv qw qx qy qz qA rY pS pT pc pd n i o) (fun i o=>o++[nth h.oA i]) (fun o=>k_ (⟨(⟨rY⟩:nd),pS,(⟨(⟨nD,po,pq,pr⟩:ny),(⟨pW,pX,pY,pT⟩:nE),pc,pw⟩:ng),pd,o,pB,qJ,(⟨qR,qS,qK⟩:nH),(⟨pL,(⟨pM⟩:nh),(⟨pR,pN⟩:nJ)⟩:nj),qL,qv,qM,qN,qO,(⟨qw,qx,qy,qz,qA⟩:oC)⟩:nx)) (fun i o=>o.length≤i) ?_ ?_ ?_ (h.oA.length+1) [] (by simp) (by omega)).trans ?_
  ·intro i o hi ho
   simp only[List.length_append,List.length_cons,List.length_nil];omega
  ·intro n i o hi ho
   show tW jK k_ (h.oA.length+1) h.oA (len h.oA) pB qJ qR qS qK pL pM pR pN qL qM qN qO nD po pq pr pW pX pY pw qv qw qx qy qz qA rY pS pT pc pd (n+1) (i:Int) o=_
   rw[VK]
   have er:nE.enc (nE.na (nth h.oA i) 0)=nth h.oA i:=nE.eta (hw _ (uB hi))
   have hb:QZ (nE.na (nth h.oA i) 0)=true:=t2 _ (uB hi)
   have dV:∀x:List DC,oT 48 o [x]=true:=fun x=>qY (by simp only[List.length_cons,List.length_nil];omega) (by omega)
   simp only[zX,oQ,oV hi,nT hi,hb,dV,er,n_ hi hl,Int.toNat_natCast,nc,nn,cond_true]
  ·intro n o ho
   show tW jK k_ (h.oA.length+1) h.oA (len h.oA) pB qJ qR qS qK pL pM pR pN qL qM qN qO nD po pq pr pW pX pY pw qv qw qx qy qz qA rY pS pT pc pd (n+1) (h.oA.length:Int) o=_
   rw[VK]
   simp only[zX,nQ,cond_false,oQ,u6,u7,u8,u9,u12,u13,u14,u15,q12,q13,q14,q15,nc,cond_true]
  ·exact congrArg (fun o=>k_ (⟨(⟨rY⟩:nd),pS,(⟨(⟨nD,po,pq,pr⟩:ny),(⟨pW,pX,pY,pT⟩:nE),pc,pw⟩:ng),pd,o,pB,qJ,(⟨qR,qS,qK⟩:nH),(⟨pL,(⟨pM⟩:nh),(⟨pR,pN⟩:nJ)⟩:nj),qL,qv,qM,qN,qO,(⟨qw,qx,qy,qz,qA⟩:oC)⟩:nx)) ((U9 (fun (o:Rows) (r:List DC)=>o++[r]) h.oA [] []).trans ((foldl_push (fun r=>r) h.oA []).trans (by simp)))
 exact key _ _ _ _ _ _ _ _ _ _ _ _ _ _ _ _ _ _ _ _ _ _ _ _ _ _ _ _ _ _ _ _ s6 s7 s8 s9 s10 s11 s12 s13 s14 s15
def Ph (k_:nx→α) (qm pB qJ:Rows) (qR:Int) (qS:Bool) (qK pL pM:Rows) (pR:Bytes) (pN qL qM qN qO:Rows) (nD po pq pr pW pX pY pw:Int) (qv:Bool) (qw qx qy qz qA:Int) (rY pS pT pc pd:Rows) (ov:Int→Rows→α) (k:Int) (vw:Rows):α:=
 let z0:nj:=(⟨pL,(⟨pM⟩:nh),(⟨pR,pN⟩:nJ)⟩:nj)
 bif decide (k<len qm) then
  bif DF (DF (DF true (idx k qm)) (QZ (nE.na (nth qm (Int.toNat k)) 0))) (oT 48 vw [nE.enc (oQ (nE.na (nth qm (Int.toNat k)) 0))]) then
   ov (nK (k+1)) (vw++[nE.enc (oQ (nE.na (nth qm (Int.toNat k)) 0))])
  else jK
 else bif DF true (oT 40 [] pB) then
   bif DF true (oT 1 [] qJ) then
    bif DF true (nkq (⟨qR,qS,qK⟩:nH)) then
     bif DF true (na7 z0) then
      bif DF true (oT 72 [] qL) then
       bif DF true (oT 16 [] qM) then
        bif DF true (oT 8 [] qN) then
         bif DF true (oT 8 [] qO) then
          k_ (⟨(⟨rY⟩:nd),pS,(⟨(⟨nD,po,pq,pr⟩:ny),(⟨pW,pX,pY,pT⟩:nE),pc,pw⟩:ng),pd,vw,pB,qJ,oQ (⟨qR,qS,qK⟩:nH),oQ z0,qL,qv,qM,qN,qO,(⟨qw,qx,qy,qz,qA⟩:oC)⟩:nx)
         else jK
        else jK
       else jK
      else jK
     else jK
    else jK
   else jK
  else jK
def uL (k_:nx→α) (N:Nat) (qm pB qJ:Rows) (qR:Int) (qS:Bool) (qK pL pM:Rows) (pR:Bytes) (pN qL qM qN qO:Rows) (nD po pq pr pW pX pY pw:Int) (qv:Bool) (qw qx qy qz qA:Int) (rY pS pT pc pd:Rows) (m_:Nat):Int→Rows→α:=
 Nat.rec (motive:=fun _=>Int→Rows→α) (fun _ _=>jK) (fun _ ov=>Ph jK k_ qm pB qJ qR qS qK pL pM pR pN qL qM qN qO nD po pq pr pW pX pY pw qv qw qx qy qz qA rY pS pT pc pd ov) m_
theorem YG (k_:nx→α) (N:Nat) (qm pB qJ:Rows) (qR:Int) (qS:Bool) (qK pL pM:Rows) (pR:Bytes) (pN qL qM qN qO:Rows) (nD po pq pr pW pX pY pw:Int) (qv:Bool) (qw qx qy qz qA:Int) (rY pS pT pc pd:Rows) (m_:Nat):uL jK k_ N qm pB qJ qR qS qK pL pM pR pN qL qM qN qO nD po pq pr pW pX pY pw qv qw qx qy qz qA rY pS pT pc pd (m_+1)=Ph jK k_ qm pB qJ qR qS qK pL pM pR pN qL qM qN qO nD po pq pr pW pX pY pw qv qw qx qy qz qA rY pS pT pc pd (uL jK k_ N qm pB qJ qR qS qK pL pM pR pN qL qM qN qO nD po pq pr pW pX pY pw qv qw qx qy qz qA rY pS pT pc pd m_):=rfl
def Xg (k_:nx→α) (l0:Rows→Rows→Rows→Int→Bool→Rows→Rows→Rows→Bytes→Rows→Rows→Rows→Rows→Rows→Int→Int→Int→Int→Int→Int→Int→Int→Bool→Int→Int→Int→Int→Int→Rows→Rows→Rows→Rows→Rows→Int→Rows→α) (h:nx):α:=
 bif DF true (nl5 h.oB) then
  bif DF true (oT 32 [] h.Maps) then
   bif DF true (nbP h.Tx) then
    bif DF true (oT 248 [] h.Rx) then
     l0 h.oA h.ou h.pk h.Filter.Mac h.Filter.ql h.Filter.qd h.nA.oY h.nA.Table.nI h.nA.oO.Key h.nA.oO.Table h.p6 h.vN h.oP h.pU (((oQ h.Tx).Ring).oR) (((oQ h.Tx).Ring).nR) (((oQ h.Tx).Ring).Head) (((oQ h.Tx).Ring).pV) (((oQ h.Tx).n7).oR) (((oQ h.Tx).n7).nR) (((oQ h.Tx).n7).Count) ((oQ h.Tx).Next) h.sF h.Counters.Frames h.Counters.Bad h.Counters.sR h.Counters.uQ h.Counters.PW ((oQ h.oB).nV) h.Maps (((oQ h.Tx).n7).py) ((oQ h.Tx).ni) h.Rx 0 []
    else jK
   else jK
  else jK
 else jK
def ngL (k_:nx→α) (N:Nat) (h:nx):α:=Xg jK k_ (fun qm pB qJ qR qS qK pL pM pR pN qL qM qN qO nD po pq pr pW pX pY pw qv qw qx qy qz qA rY pS pT pc pd=>uL jK k_ N qm pB qJ qR qS qK pL pM pR pN qL qM qN qO nD po pq pr pW pX pY pw qv qw qx qy qz qA rY pS pT pc pd N) h
theorem nua (k_:nx→α) (h:nx) (h_h:jI nx.ct h.enc) (aF:uR h=true):∃N,ngL jK k_ N h=k_ (oQ h):=by
 obtain⟨hl,hw⟩:=oy (nx.ngT h_h)
 have GW:uR h=true:=aF
 simp only[uR,Bool.and_eq_true] at GW
 obtain⟨s0,s1,s2,s3,s4,s5,s6,s7,s8,s9,s10,s11,s12,s13,s14,s15⟩:=GW
 simp only[nbF,Bool.and_eq_true,List.all_eq_true] at s5
 obtain⟨t1,t2⟩:=s5
 have l1:=t_ t1
 have m2:nbP h.Tx=true:=by simp only[nbP,s2,s3,Bool.and_self]
 have r4:oT 248 [] h.Rx=true:=qH s4 (by omega)
 have r1:oT 32 [] h.Maps=true:=qH s1 (by omega)
 refine⟨h.oA.length+1, ?_⟩
 unfold ngL Xg
 rw[show nl5 h.oB=true from s0]
 simp only[m2,r4,r1,nc,cond_true]
 have key:∀(pB:Rows) (qJ:Rows) (qR:Int) (qS:Bool) (qK:Rows) (pL:Rows) (pM:Rows) (pR:Bytes) (pN:Rows) (qL:Rows) (qM:Rows) (qN:Rows) (qO:Rows) (nD:Int) (po:Int) (pq:Int) (pr:Int) (pW:Int) (pX:Int) (pY:Int) (pw:Int) (qv:Bool) (qw:Int) (qx:Int) (qy:Int) (qz:Int) (qA:Int) (rY:Rows) (pS:Rows) (pT:Rows) (pc:Rows) (pd:Rows),sm pB=true→sm qJ=true→sm qK=true→sm pL=true→sm pM=true→sm pN=true→sm qL=true→sm qM=true→sm qN=true→sm qO=true→
   uL jK k_ (h.oA.length+1) h.oA pB qJ qR qS qK pL pM pR pN qL qM qN qO nD po pq pr pW pX pY pw qv qw qx qy qz qA rY pS pT pc pd (h.oA.length+1) 0 []=k_ (⟨(⟨rY⟩:nd),pS,(⟨(⟨nD,po,pq,pr⟩:ny),(⟨pW,pX,pY,pT⟩:nE),pc,pw⟩:ng),pd,h.oA,pB,qJ,(⟨qR,qS,qK⟩:nH),(⟨pL,(⟨pM⟩:nh),(⟨pR,pN⟩:nJ)⟩:nj),qL,qv,qM,qN,qO,(⟨qw,qx,qy,qz,qA⟩:oC)⟩:nx):=by
  intro pB qJ qR qS qK pL pM pR pN qL qM qN qO nD po pq pr pW pX pY pw qv qw qx qy qz qA rY pS pT pc pd q6 q7 q8 q9 q10 q11 q12 q13 q14 q15
  have u6:oT 40 [] pB=true:=qH q6 (by omega)
  have u7:oT 1 [] qJ=true:=qH q7 (by omega)
  have u8:nkq (⟨qR,qS,qK⟩:nH)=true:=q8
  have u9:na7 (⟨pL,(⟨pM⟩:nh),(⟨pR,pN⟩:nJ)⟩:nj)=true:=by simp only[na7,q9,q10,q11,Bool.and_self]
  have u12:oT 72 [] qL=true:=qH q12 (by omega)
  have u13:oT 16 [] qM=true:=qH q13 (by omega)
  have u14:oT 8 [] qN=true:=qH q14 (by omega)
  have u15:oT 8 [] qO=true:=qH q15 (by omega)
  refine (yq h.oA.length (fun n i o=>uL jK k_ (h.oA.length+1) h.oA pB qJ qR qS qK pL pM pR pN qL qM qN qO nD po pq pr pW pX pY pw qv qw qx qy qz qA rY pS pT pc pd n i o) (fun i o=>o++[nth h.oA i]) (fun o=>k_ (⟨(⟨rY⟩:nd),pS,(⟨(⟨nD,po,pq,pr⟩:ny),(⟨pW,pX,pY,pT⟩:nE),pc,pw⟩:ng),pd,o,pB,qJ,(⟨qR,qS,qK⟩:nH),(⟨pL,(⟨pM⟩:nh),(⟨pR,pN⟩:nJ)⟩:nj),qL,qv,qM,qN,qO,(⟨qw,qx,qy,qz,qA⟩:oC)⟩:nx)) (fun i o=>o.length≤i) ?_ ?_ ?_ (h.oA.length+1) [] (by simp) (by omega)).trans ?_
  ·intro i o hi ho
   simp only[List.length_append,List.length_cons,List.length_nil];omega
  ·intro n i o hi ho
   show uL jK k_ (h.oA.length+1) h.oA pB qJ qR qS qK pL pM pR pN qL qM qN qO nD po pq pr pW pX pY pw qv qw qx qy qz qA rY pS pT pc pd (n+1) (i:Int) o=_
   rw[YG]
   have er:nE.enc (nE.na (nth h.oA i) 0)=nth h.oA i:=nE.eta (hw _ (uB hi))
   have hb:QZ (nE.na (nth h.oA i) 0)=true:=t2 _ (uB hi)
   have dV:∀x:List DC,oT 48 o [x]=true:=fun x=>qY (by simp only[List.length_cons,List.length_nil];omega) (by omega)
   simp only[Ph,oQ,oV hi,nT hi,hb,dV,er,n_ hi hl,Int.toNat_natCast,nc,nn,cond_true]
  ·intro n o ho
   show uL jK k_ (h.oA.length+1) h.oA pB qJ qR qS qK pL pM pR pN qL qM qN qO nD po pq pr pW pX pY pw qv qw qx qy qz qA rY pS pT pc pd (n+1) (h.oA.length:Int) o=_
   rw[YG]
   simp only[Ph,nQ,cond_false,oQ,u6,u7,u8,u9,u12,u13,u14,u15,q12,q13,q14,q15,nc,cond_true]
  ·exact congrArg (fun o=>k_ (⟨(⟨rY⟩:nd),pS,(⟨(⟨nD,po,pq,pr⟩:ny),(⟨pW,pX,pY,pT⟩:nE),pc,pw⟩:ng),pd,o,pB,qJ,(⟨qR,qS,qK⟩:nH),(⟨pL,(⟨pM⟩:nh),(⟨pR,pN⟩:nJ)⟩:nj),qL,qv,qM,qN,qO,(⟨qw,qx,qy,qz,qA⟩:oC)⟩:nx)) ((U9 (fun (o:Rows) (r:List DC)=>o++[r]) h.oA [] []).trans ((foldl_push (fun r=>r) h.oA []).trans (by simp)))
 exact key _ _ _ _ _ _ _ _ _ _ _ _ _ _ _ _ _ _ _ _ _ _ _ _ _ _ _ _ _ _ _ _ s6 s7 s8 s9 s10 s11 s12 s13 s14 s15
structure pE where
 Op:Int
 Flags:Int
 Len:Int
 At:Int
 nR:Int
 RI:Int
def pE.enc (x:pE):List DC:=[.int x.Op,.int x.Flags,.int x.Len,.int x.At,.int x.nR,.int x.RI]
def pE.na (r:List DC) (o:Nat):pE:=⟨rI r (o+0),rI r (o+1),rI r (o+2),rI r (o+3),rI r (o+4),rI r (o+5)⟩
def pE.ct:List CT:=[.i,.i,.i,.i,.i,.i]
theorem pE.eta {r:List DC} (h:jI pE.ct r):(pE.na r 0).enc=r:=(show (pE.na r 0).enc=sV pE.ct r 0 from by kernel_rfl).trans (rp h)
theorem pE.nB {r:List CT} {ds:List DC} (h:jI (pE.ct++r) ds):∃(x:pE) (aW:List DC),ds=x.enc++aW∧jI pE.ct x.enc∧jI r aW:=by
 obtain⟨d1,d2,rfl,h1,h2⟩:=qt h
 exact⟨pE.na d1 0,d2,by rw[pE.eta h1],by rw[pE.eta h1];exact h1,h2⟩
theorem pE.nyW {x:pE} (h:jI pE.ct x.enc):Gk .i (.int x.Flags):=oD 1 h rfl rfl
theorem pE.nrT {x:pE} (h:jI pE.ct x.enc):Gk .i (.int x.nR):=oD 4 h rfl rfl
theorem pE.nyf {x:pE} (h:jI pE.ct x.enc):Gk .i (.int x.RI):=oD 5 h rfl rfl
def nky (k_:Int→α) (s:Bytes) (at_:Int):α:=
 bif bif decide (at_<0) then true else decide (nK ((len s) - 2)<at_) then k_ (-1)
 else bif DF (DF true (idx at_ s)) (idx (nK (at_+1)) s) then
   k_ (bits .or .i64 (nei .i64 (nK (tK s at_)) 8) (nK (tK s (nK (at_+1)))))
  else jK
theorem nv3 (k_:Int→α) (s:Bytes) (at_:Int) (xw:Gk .str (.str s)):nky jK k_ s at_=k_ (oM s at_):=by
 have hl:=xv xw
 have hl0:0≤len s:=by simp [len]
 have F1:len s≤9223372036854775807:=by simp only[len];omega
 unfold nky oM
 have nzQ:(bif decide (at_<0) then true else decide (nK (len s - 2)<at_))= !(qB s at_ 2):=by
  have h1:=within_iff (s:=s) (at_:=at_) (n:=2) hl
  rw[nF (n:=len s - 2) (by omega) (by omega)]
  cases hw:qB s at_ 2
  ·by_cases h0:at_<0
   ·simp [h0]
   ·by_cases h2:len s - 2<at_
    ·simp [h0,h2]
    ·rw[h1.2 (by omega)] at hw
     cases hw
  ·have:=h1.1 hw
   simp [show ¬at_<0 by omega,show ¬len s - 2<at_ by omega]
 rw[nzQ]
 cases hw:qB s at_ 2
 ·rfl
 ·have hh:=(within_iff hl).1 hw
  have w1:nK (at_+1)=at_+1:=nF (by omega) (by omega)
  have db:∀j:Int,0≤j→j<len s→idx j s=true:=by
   intro j h1 h2
   simp only[len] at h2
   simp only[idx,Bool.and_eq_true,decide_eq_true_eq]
   omega
  have b0:=ry s at_
  have c0:=sC s at_
  have b1:=ry s (at_+1)
  have c1:=sC s (at_+1)
  simp only[w1,db at_ (by omega) (by omega),db (at_+1) (by omega) (by omega),nc,cond_true,cond_false,Bool.not_true]
  rw[nF (n:=tK s at_) (by omega) (by omega),nF (n:=tK s (at_+1)) (by omega) (by omega),nyQ,nF (n:=tK s at_*256) (by omega) (by omega),nbB 8 (y:=tK s (at_+1)) (by omega) (by omega) (by omega) (by omega) (by omega) (by omega)]
def nN (s:Bytes):Int:=bif (oM s 12)==33024 then 18 else 14
theorem SX (s:Bytes):nN s=14∨nN s=18:=by
 unfold nN
 cases (oM s 12)==33024<;>simp
theorem nvC {e:qI} (h:vP e=true):0≤e.Ua∧e.Ua≤281474976710655∧0≤e.Src∧e.Src≤281474976710655∧46≤e.Body.length:=by
 unfold vP xG at h
 cases h1:nf e.Ua 0 281474976710655
 ·rw[h1] at h;cases h
 cases h2:nf e.Src 0 281474976710655
 ·rw[h1,h2] at h;cases h
 have a:=n0.1 h1
 have b:=n0.1 h2
 cases hb:nf (len e.Body) 46 400
 ·rw[hb] at h
  revert h
  cases nf e.Ua 0 281474976710655<;>cases nf e.Src 0 281474976710655<;>cases nf e.sO (-1) 4095<;>cases nf e.zh 1536 65535<;>cases e.zh != 33024<;>simp
 ·have:=n0.1 hb
  simp only[len] at this
  omega
def ZB (k_:Int→Int→α) (image:Bytes):α:=
 let z0:Int:=bif (oM image 12)==33024 then 18 else 14
 let z1:Int:=nK (z0+9)
 let z2:Bool:=decide (z1<len image)
 bif KW z2 (DF true (idx z1 image)) true then
  k_ (nK (z0+10)) (nK ((nK (z0+20))+(p_ (bif z2 then nK (tK image z1) else 0))))
 else jK
def NH (s:Bytes):Int×Int:=(nN s+10,nN s+20+p_ (bif decide (nN s+9<len s) then tK s (nN s+9) else 0))
def sN (s:Bytes):Int×Int:=bif decide (len s<nN s+46) then (-1, -1) else NH s
theorem nmV (k_:Int→Int→α) (image:Bytes) (nvY:Gk .str (.str image)):ZB jK k_ image=k_ (NH image).1 (NH image).2:=by
 have hl:=xv nvY
 have hl0:0≤len image:=by simp [len]
 have F1:len image≤9223372036854775807:=by simp only[len];omega
 have ha:=SX image
 have b0:=ry image (nN image+9)
 have c0:=sC image (nN image+9)
 unfold ZB
 rw[show (bif (oM image 12)==33024 then (18:Int) else 14)=nN image from rfl]
 dsimp only
 have w9:nK (nN image+9)=nN image+9:=nF (by omega) (by omega)
 have w10:nK (nN image+10)=nN image+10:=nF (by omega) (by omega)
 have wv:nK (tK image (nN image+9))=tK image (nN image+9):=nF (by omega) (by omega)
 have db:nN image+9<len image→idx (nN image+9) image=true:=by
  intro h
  simp only[len] at h
  simp only[idx,Bool.and_eq_true,decide_eq_true_eq]
  omega
 have w20:nK (nN image+20)=nN image+20:=nF (by omega) (by omega)
 have ws:∀v:Int,nK (nN image+20+p_ v)=nN image+20+p_ v:=by
  intro v
  rw[YH]
  cases v==6
  ·exact nF (by simp only[cond_false];omega) (by simp only[cond_false];omega)
  ·exact nF (by simp only[cond_true];omega) (by simp only[cond_true];omega)
 rw[w9,w10,wv,w20,ws]
 exact pn (naT (fun h=>by rw[db (of_decide_eq_true h)];rfl) (fun _=>rfl)) rfl
def ngG (k_:Int→Int→α) (s:Bytes):α:=
 let z0:Int:=bif (oM s 12)==33024 then 18 else 14
 let z1:Int:=nK (z0+9)
 let z2:Int:=nK (z0+10)
 bif decide (len s<nK (z0+46)) then k_ (-1) (-1)
 else bif DF true (idx z1 s) then
   bif (nK (tK s z1))==6 then k_ z2 (nK (z0+36))
   else k_ z2 (nK (z0+26))
  else jK
theorem nt8 (k_:Int→Int→α) (s:Bytes) (xw:Gk .str (.str s)):ngG jK k_ s=k_ (sN s).1 (sN s).2:=by
 have hl:=xv xw
 have hl0:0≤len s:=by simp [len]
 have F1:len s≤9223372036854775807:=by simp only[len];omega
 have ha:=SX s
 have b0:=ry s (nN s+9)
 have c0:=sC s (nN s+9)
 unfold ngG
 rw[show (bif (oM s 12)==33024 then (18:Int) else 14)=nN s from rfl]
 dsimp only
 have w9:nK (nN s+9)=nN s+9:=nF (by omega) (by omega)
 have w10:nK (nN s+10)=nN s+10:=nF (by omega) (by omega)
 have wv:nK (tK s (nN s+9))=tK s (nN s+9):=nF (by omega) (by omega)
 have db:nN s+9<len s→idx (nN s+9) s=true:=by
  intro h
  simp only[len] at h
  simp only[idx,Bool.and_eq_true,decide_eq_true_eq]
  omega
 have w46:nK (nN s+46)=nN s+46:=nF (by omega) (by omega)
 have w36:nK (nN s+36)=nN s+36:=nF (by omega) (by omega)
 have w26:nK (nN s+26)=nN s+26:=nF (by omega) (by omega)
 rw[w9,w10,wv,w46,w36,w26]
 unfold sN
 by_cases h:len s<nN s+46
 ·simp only[decide_eq_true h,cond_true]
 ·have h9:nN s+9<len s:=by omega
  simp only[decide_eq_false h,cond_false,db h9,nc,cond_true,NH,decide_eq_true h9,YH]
  cases tK s (nN s+9)==6
  ·simp only[cond_false]
   rw[show nN s+20+6=nN s+26 by omega]
  ·simp only[cond_true]
   rw[show nN s+20+16=nN s+36 by omega]
def ncA (k_:Bytes→Bool→α) (p:nk):α:=
 let z0:Bytes:=pH ((nU p).1) ((NH ((nU p).1)).1) (nO 0)
 bif !((nU p).2) then k_ [] false
 else bif DF (DF true (oE ((nU p).1) ((NH ((nU p).1)).1) (nO 0))) (oE z0 ((NH ((nU p).1)).2) (nO 0)) then
   k_ (pH z0 ((NH ((nU p).1)).2) (nO 0)) true
  else jK
theorem nxS {a b:Bytes} {j:Nat} :tK (a++b) ((a.length+j:Nat):Int)=tK b (j:Int):=by
 simp only[tK,Int.toNat_natCast,List.getD_eq_getElem?_getD]
 rw[List.getElem?_append_right (by omega),Nat.add_sub_cancel_left]
theorem nxN {a:Int} (h0:0≤a) (h1:a≤281474976710655):(pb a).length=6:=by
 have e1:So .i64 a 32=a / 4294967296:=by
  unfold So
  rw[show min (Int.toNat 32) IntKind.i64.bits=32 by rfl,show (2 ^ 32:Int)=4294967296 by rfl]
  exact Int.fdiv_eq_ediv_of_nonneg a (by omega)
 have e2:bits .and .i64 a 4294967295=a % 4294967296:=net 32 (by decide) a
 unfold pb
 rw[e1,e2,List.length_append,niW (by omega) (by omega),nwI (by omega) (by omega)]
theorem nwQ {p:nk} (h:(nU p).2=true):nN (nU p).1+46≤len (nU p).1:=by
 unfold nU at h ⊢
 cases hs:rA p
 ·rw[hs] at h;cases h
 rw[hs] at h
 simp only[Bool.not_true,cond_false] at h ⊢
 unfold v_ at h ⊢
 cases he:vP (qo p)
 ·rw[he] at h;cases h
 simp only[Bool.not_true,cond_false]
 obtain⟨d0,d1,s0,s1,hb⟩:=nvC he
 have m1:=nxN d0 d1
 have m2:=nxN s0 s1
 have hty:(qo p).zh=2048:=rfl
 have w8:nO 2048=[8,0]:=by unfold nO wN;rfl
 have hm:(pb (qo p).Ua++pb (qo p).Src).length=12:=by rw[List.length_append,m1,m2]
 by_cases hv:0≤(qo p).sO
 ·have ho:=SX (PY (qo p)++nO (qo p).zh++(qo p).Body)
  have Cd:(nO 33024).length=2:=niW (by omega) (by omega)
  have hv2:(qo p).sO≤4095:=by
   unfold vP xG at he
   cases h3:nf (qo p).sO (-1) 4095
   ·rw[h3] at he
    revert he
    cases nf (qo p).Ua 0 281474976710655<;>cases nf (qo p).Src 0 281474976710655<;>simp
   ·exact (n0.1 h3).2
  have hl:(PY (qo p)).length=16:=by
   unfold PY
   rw[decide_eq_true hv,cond_true,List.length_append,hm,List.length_append,Cd,niW (by omega) (by omega)]
  simp only[len,List.length_append,hl,hty,w8,List.length_cons,List.length_nil]
  simp only[hty,w8] at ho
  omega
 ·have hl:PY (qo p)=pb (qo p).Ua++pb (qo p).Src:=by
   unfold PY
   rw[decide_eq_false hv,cond_false]
  rw[hl,hty,w8]
  have hg:oM (pb (qo p).Ua++pb (qo p).Src++[8,0]++(qo p).Body) 12≠33024:=by
   unfold oM
   have q0:tK (pb (qo p).Ua++pb (qo p).Src++[8,0]++(qo p).Body) 12=8:=by
    have:=nxS (a:=pb (qo p).Ua++pb (qo p).Src) (b:=[8,0]++(qo p).Body) (j:=0)
    rw[hm,←List.append_assoc] at this
    exact this
   have q1:tK (pb (qo p).Ua++pb (qo p).Src++[8,0]++(qo p).Body) (12+1)=0:=by
    have:=nxS (a:=pb (qo p).Ua++pb (qo p).Src) (b:=[8,0]++(qo p).Body) (j:=1)
    rw[hm,←List.append_assoc] at this
    exact this
   rw[q0,q1]
   cases !(qB (pb (qo p).Ua++pb (qo p).Src++[8,0]++(qo p).Body) 12 2)<;>simp
  have hf:((oM (pb (qo p).Ua++pb (qo p).Src++[8,0]++(qo p).Body) 12)==33024)=false:=by simpa using hg
  unfold nN
  rw[hf,cond_false]
  simp only[len,List.length_append,m1,m2,List.length_cons,List.length_nil]
  omega
theorem nyG {p:nk} (h:(nU p).2=true):sN (nU p).1=NH (nU p).1:=by
 have:=nwQ h
 unfold sN
 rw[decide_eq_false (by omega),cond_false]
def sU (p:nk):Bytes×Bool:=bif !(nU p).2 then ([],false) else (pH (pH (nU p).1 (NH (nU p).1).1 (nO 0)) (NH (nU p).1).2 (nO 0),true)
theorem npK (k_:Bytes→Bool→α) (p:nk):ncA jK k_ p=k_ (sU p).1 (sU p).2:=by
 have hb:=ze p
 have hw:=oq 0
 unfold ncA sU
 refine pj (K:=fun r:Bytes×Bool=>k_ r.1 r.2) (fun _=>rfl) (fun hg=> ?_)
 have o1:∀a,oE (nU p).1 a (nO 0)=true:=fun a=>by
  simp only[oE,Bool.and_eq_true,decide_eq_true_eq];omega
 have o2:∀a b,oE (pH (nU p).1 a (nO 0)) b (nO 0)=true:=fun a b=>by
  simp only[oE,Bool.and_eq_true,decide_eq_true_eq]
  rw[sT (by omega)]
  omega
 simp only[o1,o2,nc,cond_true]
def nd1 (k_:Bytes→Bool→α) (p:nk):α:=
 let z0:Bytes:=pH ((nU p).1) ((sN ((nU p).1)).1) (nO 0)
 bif !((nU p).2) then k_ [] false
 else bif DF (DF true (oE ((nU p).1) ((sN ((nU p).1)).1) (nO 0))) (oE z0 ((sN ((nU p).1)).2) (nO 0)) then
   k_ (pH z0 ((sN ((nU p).1)).2) (nO 0)) true
  else jK
theorem nrw (k_:Bytes→Bool→α) (p:nk):nd1 jK k_ p=k_ (sU p).1 (sU p).2:=by
 have hb:=ze p
 have hw:=oq 0
 unfold nd1 sU
 refine pj (K:=fun r:Bytes×Bool=>k_ r.1 r.2) (fun _=>rfl) (fun hg=> ?_)
 have es:=nyG (p:=p) (by simpa using hg)
 have o1:∀a,oE (nU p).1 a (nO 0)=true:=fun a=>by
  simp only[oE,Bool.and_eq_true,decide_eq_true_eq];omega
 have o2:∀a b,oE (pH (nU p).1 a (nO 0)) b (nO 0)=true:=fun a b=>by
  simp only[oE,Bool.and_eq_true,decide_eq_true_eq]
  rw[sT (by omega)]
  omega
 simp only[es,o1,o2,nc,cond_true]
def nhS {α:Type} (k_:Bool→α) (x:pE):α:=
 k_ (bif nf x.Op 0 3 then bif nf x.Flags 0 3 then bif nf x.Len 0 65535 then bif nf x.nR 0 65535 then bif nf x.RI 0 65535 then nf x.At 0 4294967295 else false else false else false else false else false)
def YJ (x:pE):Bool:=nhS id x
theorem nhQ {α:Type} (k_:Bool→α) (x:pE):nhS k_ x=k_ (YJ x):=by
 rfl
def zS (k_:Bool→α) (list_ x:Rows) (nZ:Int) (ov:Int→α) (om:Int):α:=
 bif decide (om<nZ) then
  bif DF true (idx om x) then
   bif bif decide (rI (nth x (Int.toNat om)) 0<0) then true else !(nf (rI (nth x (Int.toNat om)) 1) 0 4096) then k_ false
   else ov (nK (om+1))
  else jK
 else k_ (decide (len list_≤16))
def zR (k_:Bool→α) (N:Nat) (list_ x:Rows) (nZ:Int) (m_:Nat):Int→α:=
 Nat.rec (motive:=fun _=>Int→α) (fun _=>jK) (fun _ ov=>zS jK k_ list_ x nZ ov) m_
theorem Vy (k_:Bool→α) (N:Nat) (list_ x:Rows) (nZ:Int) (m_:Nat):zR jK k_ N list_ x nZ (m_+1)=zS jK k_ list_ x nZ (zR jK k_ N list_ x nZ m_):=rfl
def TA {α:Type} (jK:α) (k_:Bool→α) (l0:Rows→Int→Int→α) (list_:Rows):α:=
 l0 list_ (len list_) 0
def ncl (k_:Bool→α) (N:Nat) (list_:Rows):α:=TA jK k_ (fun x nZ=>zR jK k_ N list_ x nZ N) list_
def uM (list_:Rows):Bool:=bif qQ (fun _ r=>bif decide (rI r 0<0) then true else !(nf (rI r 1) 0 4096)) list_ 0 then false else decide (len list_≤16)
theorem PV {l:Rows} (h:uM l=true):l.length≤16:=by
 unfold uM at h
 revert h
 cases qQ (fun _ r=>bif decide (rI r 0<0) then true else !(nf (rI r 1) 0 4096)) l 0
 ·intro h
  have:=of_decide_eq_true h
  simp only[len] at this
  omega
 ·intro h;cases h
theorem npu (k_:Bool→α) (list_:Rows) (pg:Gk (.sl [.i,.i]) (.sl list_)):∃N,ncl jK k_ N list_=k_ (uM list_):=by
 obtain⟨hl,_⟩:=oy pg
 refine⟨list_.length+1, ?_⟩
 unfold ncl TA
 refine (qW list_ (zR jK k_ (list_.length+1) list_ list_ (len list_)) (fun i r c=>bif bif decide (rI r 0<0) then true else !(nf (rI r 1) 0 4096) then k_ false else c) (k_ (decide (len list_≤16))) ?_ ?_).trans ?_
 ·intro n i h
  rw[Vy]
  simp only[zS,oV h,nT h,n_ h hl,Int.toNat_natCast,nc,nn,cond_true,zx]
 ·intro n
  rw[Vy]
  simp only[zS,nQ,cond_false,zx]
 ·refine (vb (fun _ r=>bif decide (rI r 0<0) then true else !(nf (rI r 1) 0 4096)) (k_ false) (k_ (decide (len list_≤16))) list_ 0).trans ?_
  exact Jk rfl rfl
def Nw (k_:Bool→α) (list_:Rows) (ov:Int→α) (k:Int):α:=
 let z0:Bool:=decide (rI (nth list_ (Int.toNat k)) 0<0)
 bif decide (k<len list_) then
  bif KW z0 (DF true (idx k list_)) (DF (DF true (idx k list_)) (idx k list_)) then
   bif bif z0 then true else !(nf (rI (nth list_ (Int.toNat k)) 1) 0 4096) then k_ false
   else ov (nK (k+1))
  else jK
 else k_ (decide (len list_≤16))
def Nv (k_:Bool→α) (N:Nat) (list_:Rows) (m_:Nat):Int→α:=
 Nat.rec (motive:=fun _=>Int→α) (fun _=>jK) (fun _ ov=>Nw jK k_ list_ ov) m_
theorem WU (k_:Bool→α) (N:Nat) (list_:Rows) (m_:Nat):Nv jK k_ N list_ (m_+1)=Nw jK k_ list_ (Nv jK k_ N list_ m_):=rfl
def T3 {α:Type} (jK:α) (k_:Bool→α) (l0:Int→α) (list_:Rows):α:=
 l0 0
def ndO (k_:Bool→α) (N:Nat) (list_:Rows):α:=T3 jK k_ (Nv jK k_ N list_ N) list_
theorem nri (k_:Bool→α) (list_:Rows) (pg:Gk (.sl [.i,.i]) (.sl list_)):∃N,ndO jK k_ N list_=k_ (uM list_):=by
 obtain⟨hl,_⟩:=oy pg
 refine⟨list_.length+1, ?_⟩
 unfold ndO T3
 refine (qW list_ (Nv jK k_ (list_.length+1) list_) (fun i r c=>bif bif decide (rI r 0<0) then true else !(nf (rI r 1) 0 4096) then k_ false else c) (k_ (decide (len list_≤16))) ?_ ?_).trans ?_
 ·intro n i h
  rw[WU]
  simp only[Nw,oV h,nT h,n_ h hl,Int.toNat_natCast,nc,nn,cond_true,zx]
 ·intro n
  rw[WU]
  simp only[Nw,nQ,cond_false,zx]
 ·refine (vb (fun _ r=>bif decide (rI r 0<0) then true else !(nf (rI r 1) 0 4096)) (k_ false) (k_ (decide (len list_≤16))) list_ 0).trans ?_
  exact Jk rfl rfl
def VA (k_:Int→α) (r:ny) (count:Int):α:=
 bif bif !(pJ r) then true else decide (count<0) then k_ (-1)
 else bif DF true (!(r.nR==0)) then
   k_ (nK (r.oR+(nK ((Int.tmod count r.nR)*16))))
  else jK
def we (r:ny) (count:Int):Int:=bif bif !(pJ r) then true else decide (count<0) then -1 else nK (r.oR+nK (Int.tmod count r.nR*16))
theorem ni7 (k_:Int→α) (r:ny) (count:Int):VA jK k_ r count=k_ (we r count):=by
 unfold VA we
 refine pj (fun _=>rfl) (fun hg=> ?_)
 have hr:pJ r=true:=by
  revert hg
  cases pJ r<;>simp
 have hs:=PG hr
 have hz:(!(r.nR==0))=true:=by simp;omega
 simp only[hz,nc,cond_true]
def WW (k_:Int→α) (r:ny) (count:Int):α:=
 bif bif !(pJ r) then true else decide (count<0) then k_ (-1)
 else bif DF true (!(r.nR==0)) then
   k_ (nK (r.oR+(nK (16*(Int.tmod count r.nR)))))
  else jK
theorem nj2 (k_:Int→α) (r:ny) (count:Int):WW jK k_ r count=k_ (we r count):=by
 unfold WW we
 refine pj (fun _=>rfl) (fun hg=> ?_)
 have hr:pJ r=true:=by
  revert hg
  cases pJ r<;>simp
 have hs:=PG hr
 have hz:(!(r.nR==0))=true:=by simp;omega
 simp only[hz,nc,cond_true,Int.mul_comm 16]
def Xu (k_:Bytes→α) (x:pE):α:=
 let z0:Bytes:=(toStr ([[.int (IntKind.wrap .u8 x.Op)],[.int (IntKind.wrap .u8 x.Flags)]]))++(nO x.Len)
 let z1:Bytes:=z0++(qb x.At)
 let z2:Bytes:=z1++(nO x.nR)
 let z3:Bytes:=z2++(nO x.RI)
 bif !(YJ x) then k_ []
 else bif DF (DF (DF (DF (DF true (oK (toStr ([[.int (IntKind.wrap .u8 x.Op)],[.int (IntKind.wrap .u8 x.Flags)]])) (nO x.Len))) (oK z0 (qb x.At))) (oK z1 (nO x.nR))) (oK z2 (nO x.RI))) (oK z3 (qb 0)) then
   k_ (z3++(qb 0))
  else jK
def Vb (x:pE):Bytes:=bif !(YJ x) then [] else toStr ([[.int (IntKind.wrap .u8 x.Op)],[.int (IntKind.wrap .u8 x.Flags)]])++nO x.Len++qb x.At++nO x.nR++nO x.RI++qb 0
theorem Xt (k_:Bytes→α) (x:pE):Xu jK k_ x=k_ (Vb x):=by
 have a:=oq x.Len
 have b:=qU x.At
 have c:=oq x.nR
 have d:=oq x.RI
 have e:=qU 0
 unfold Xu Vb
 refine pj (fun _=>rfl) (fun hg=> ?_)
 refine pn (by simp only[fT,oK,ss,List.length_append,qZ,List.length_cons,List.length_nil,decide_eq_true_eq,true_and,and_true];omega) rfl
def sX (k_:Rows→α) (l1:Rows→Rows→Int→Int→α) (pieces:Rows) (nL:Int) (x:Rows) (nZ:Int) (ov:Int→Rows→α) (om:Int) (nD:Rows):α:=
 bif decide (om<nZ) then
  bif DF true (idx om x) then
   bif om==(nK ((len pieces) - 1)) then
    bif DF true (oT 48 nD ([[.int 1,.int 1,.int (rI (nth x (Int.toNat om)) 1),.int (rI (nth x (Int.toNat om)) 0),.int 0,.int nL]])) then
     ov (nK (om+1)) (nD++([[.int 1,.int 1,.int (rI (nth x (Int.toNat om)) 1),.int (rI (nth x (Int.toNat om)) 0),.int 0,.int nL]]))
    else jK
   else bif DF true (oT 48 nD ([[.int 1,.int 0,.int (rI (nth x (Int.toNat om)) 1),.int (rI (nth x (Int.toNat om)) 0),.int 0,.int nL]])) then
     ov (nK (om+1)) (nD++([[.int 1,.int 0,.int (rI (nth x (Int.toNat om)) 1),.int (rI (nth x (Int.toNat om)) 0),.int 0,.int nL]]))
    else jK
  else jK
 else l1 nD nD (len nD) 0
def sY (k_:Rows→α) (nD yf:Rows) (ui:Int) (ih1:Int→α) (PC:Int):α:=
 bif decide (PC<ui) then
  bif DF true (idx PC yf) then
   bif !(YJ (pE.na (nth yf (Int.toNat PC)) 0)) then k_ []
   else ih1 (nK (PC+1))
  else jK
 else k_ nD
def qk (k_:Rows→α) (N:Nat) (nD yf:Rows) (ui:Int) (m_:Nat):Int→α:=
 Nat.rec (motive:=fun _=>Int→α) (fun _=>jK) (fun _ ih1=>sY jK k_ nD yf ui ih1) m_
theorem N7 (k_:Rows→α) (N:Nat) (nD yf:Rows) (ui:Int) (m_:Nat):qk jK k_ N nD yf ui (m_+1)=sY jK k_ nD yf ui (qk jK k_ N nD yf ui m_):=rfl
def qD (k_:Rows→α) (N:Nat) (pieces:Rows) (nL:Int) (x:Rows) (nZ:Int) (m_:Nat):Int→Rows→α:=
 Nat.rec (motive:=fun _=>Int→Rows→α) (fun _ _=>jK) (fun _ ov=>sX jK k_ (fun nD yf ui=>qk jK k_ N nD yf ui N) pieces nL x nZ ov) m_
theorem N6 (k_:Rows→α) (N:Nat) (pieces:Rows) (nL:Int) (x:Rows) (nZ:Int) (m_:Nat) (om:Int) (nD:Rows):qD jK k_ N pieces nL x nZ (m_+1) om nD=sX jK k_ (fun nD yf ui=>qk jK k_ N nD yf ui N) pieces nL x nZ (qD jK k_ N pieces nL x nZ m_) om nD:=rfl
def vI {α:Type} (jK:α) (k_:Rows→α) (l0:Rows→Int→Int→Rows→α) (pieces:Rows) (size nL:Int):α:=
 bif bif (len pieces)==0 then true else bif !(uM pieces) then true else !(nf size 1 128) then k_ []
 else l0 pieces (len pieces) 0 ([[.int 2,.int 0,.int 0,.int 0,.int size,.int nL]])
def vH (k_:Rows→α) (N:Nat) (pieces:Rows) (size nL:Int):α:=vI jK k_ (fun x nZ=>qD jK k_ N pieces nL x nZ N) pieces size nL
def npb (n:Nat) (nL:Int) (i:Nat) (r:List DC):List DC:=[.int 1,.int (bif ((i:Nat):Int)==nK ((n:Int) - 1) then 1 else 0),.int (rI r 1),.int (rI r 0),.int 0,.int nL]
def nd7 (n:Nat) (nL:Int):Rows→Nat→Rows
 | [],_=>[]
 | r::rs,i=>npb n nL i r::nd7 n nL rs (i+1)
theorem nwK (n:Nat) (nL:Int):∀(l:Rows) (i:Nat),(nd7 n nL l i).length=l.length
 | [],_=>rfl
 | r::rs,i=>by simp only[nd7,List.length_cons,nwK n nL rs (i+1)]
def ni2 (r:List DC):Bool:= !(YJ (pE.na r 0))
def Vh (size nL:Int):List DC:=[.int 2,.int 0,.int 0,.int 0,.int size,.int nL]
def rN (pieces:Rows) (size nL:Int):Rows:=
 bif bif (len pieces)==0 then true else bif !(uM pieces) then true else !(nf size 1 128) then []
 else bif (Vh size nL::nd7 pieces.length nL pieces 0).any ni2 then [] else Vh size nL::nd7 pieces.length nL pieces 0
theorem nzn {α:Type} (n:Nat) (nL:Int) (x:α) (fin:Rows→α):∀(l:Rows) (i:Nat) (o:Rows),
  sB (σ:=Rows) (fun i r c o=>bif ni2 (npb n nL i r) then x else c (o++[npb n nL i r])) fin l i o=bif (nd7 n nL l i).any ni2 then x else fin (o++nd7 n nL l i)
 | [],_,o=>by simp [sB,nd7]
 | r::rs,i,o=>by
  simp only[sB,nd7,List.any_cons]
  cases ni2 (npb n nL i r)
  ·have:=nzn n nL x fin rs (i+1) (o++[npb n nL i r])
   simp only[cond_false,Bool.false_or]
   rw[this,List.append_assoc]
   rfl
  ·rfl
theorem nzo {α:Type} (n:Nat) (nL:Int) (fin:Rows→α):∀(l:Rows) (i:Nat) (o:Rows),
  sB (σ:=Rows) (fun i r c o=>c (o++[npb n nL i r])) fin l i o=fin (o++nd7 n nL l i)
 | [],_,o=>by simp [sB,nd7]
 | r::rs,i,o=>by
  simp only[sB,nd7]
  have:=nzo n nL fin rs (i+1) (o++[npb n nL i r])
  rw[this,List.append_assoc]
  rfl
theorem nby {α:Type} (list:Rows) (L:Nat→Int→Rows→α) (step:Nat→List DC→(Rows→α)→Rows→α) (fin:Rows→α) (z:Nat)
  (hc:∀i r (c d:Rows→α) s,(∀s',s'.length=s.length+1→c s'=d s')→step i r c s=step i r d s)
  (hs:∀n (i:Nat) s,i<list.length→s.length=z+i→L (n+1) (i:Int) s=step i (nth list i) (L n ((i:Int)+1)) s)
  (he:∀n s,s.length=z+list.length→L (n+1) (list.length:Int) s=fin s):∀(m i:Nat) (s:Rows) (n:Nat),i+m=list.length→m<n→s.length=z+i→L n (i:Int) s=sB step fin (list.drop i) i s
 | 0,i,s,n,h,hn,hz=>by
  obtain⟨n,rfl⟩:∃q,n=q+1:=⟨n - 1,by omega⟩
  have:i=list.length:=by omega
  subst this
  rw[he n s hz,List.drop_length]
  rfl
 | m+1,i,s,n,h,hn,hz=>by
  obtain⟨n,rfl⟩:∃q,n=q+1:=⟨n - 1,by omega⟩
  have cd:i<list.length:=by omega
  rw[hs n i s cd hz,List.drop_eq_getElem_cons cd]
  have LI:nth list i=list[i]:=by simp [nth,List.getD_eq_getElem?_getD,cd]
  show _=step i list[i] (sB step fin (list.drop (i+1)) (i+1)) s
  rw[←LI]
  refine hc _ _ _ _ _ (fun s' A9=> ?_)
  exact nby list L step fin z hc hs he m (i+1) s' n (by omega) (by omega) (by omega)
theorem nd9 (k_:Rows→α) (pieces:Rows) (size nL:Int) (vl:Gk (.sl [.i,.i]) (.sl pieces)):∃N,vH jK k_ N pieces size nL=k_ (rN pieces size nL):=by
 obtain⟨hl,hw⟩:=oy vl
 refine⟨pieces.length+2, ?_⟩
 unfold vH vI rN
 have dV:∀(o:Rows) (x:List DC),o.length≤100→oT 48 o [x]=true:=fun o x h=>qY (by simp only[List.length_cons,List.length_nil];omega) (by omega)
 refine pj (fun _=>rfl) (fun hg=> ?_)
 have hp:uM pieces=true:=by
  revert hg
  cases (len pieces)==0<;>cases uM pieces<;>simp
 have nAc:=PV hp
 have key:=nby pieces (fun n i o=>qD jK k_ (pieces.length+2) pieces nL pieces (len pieces) n i o) (fun i r c o=>c (o++[npb pieces.length nL i r])) (fun o=>qk jK k_ (pieces.length+2) o o (len o) (pieces.length+2) 0) 1 (fun i r c d s h=>h _ (by simp)) ?_ ?_ pieces.length 0 [Vh size nL] (pieces.length+2) (by omega) (by omega) (by simp)
 ·refine key.trans ?_
  rw[List.drop_zero,nzo]
  have hL:([Vh size nL]++nd7 pieces.length nL pieces 0).length+0=pieces.length+1:=by simp [nwK]
  generalize hO:[Vh size nL]++nd7 pieces.length nL pieces 0=O at hL
  have hO2:Vh size nL::nd7 pieces.length nL pieces 0=O:=hO
  rw[hO2]
  refine (vv O (fun n i=>qk jK k_ (pieces.length+2) O O (len O) n i) (fun i r c=>bif ni2 r then k_ [] else c) (k_ O) ?_ ?_ (pieces.length+2) (by omega)).trans ?_
  ·intro n i hi
   show qk jK k_ (pieces.length+2) O O (len O) (n+1) (i:Int)=_
   rw[N7]
   simp only[sY,oV hi,nT hi,n_ hi (show O.length≤9223372036854775807 by omega),Int.toNat_natCast,nc,cond_true]
   rfl
  ·intro n
   show qk jK k_ (pieces.length+2) O O (len O) (n+1) (O.length:Int)=_
   rw[N7]
   simp only[sY,nQ,cond_false]
  ·have e:∀(l:Rows) (i:Nat),sB (σ:=Unit) (fun i r c s=>bif ni2 r then k_ [] else c s) (fun _=>k_ O) l i ()=bif l.any ni2 then k_ [] else k_ O:=by
    intro l
    induction l with
    | nil=>intro i;rfl
    | cons r rs ih=>
     intro i
     simp only[sB,List.any_cons]
     cases ni2 r
     ·exact ih (i+1)
     ·rfl
   exact (e O 0).trans (Jk rfl rfl)
 ·intro n i o hi ho
  show qD jK k_ (pieces.length+2) pieces nL pieces (len pieces) (n+1) (i:Int) o=_
  rw[N6]
  simp only[sX,oV hi,nT hi,n_ hi hl,Int.toNat_natCast,dV o _ (by omega),nc,cond_true,npb]
  simp only[len]
  cases ((i:Nat):Int)==nK ((pieces.length:Int) - 1)<;>rfl
 ·intro n o ho
  show qD jK k_ (pieces.length+2) pieces nL pieces (len pieces) (n+1) (pieces.length:Int) o=_
  rw[N6]
  simp only[sX,nQ,cond_false]
def uV (k_:Rows→α) (pieces:Rows) (nL:Int) (ov:Int→Rows→α) (k:Int) (nD:Rows):α:=
 bif decide (k<len pieces) then
  bif DF (DF true (idx k pieces)) (idx k pieces) then
   bif k==(nK ((len pieces) - 1)) then
    bif !(YJ (⟨1,1,rI (nth pieces (Int.toNat k)) 1,rI (nth pieces (Int.toNat k)) 0,0,nL⟩:pE)) then k_ []
    else bif DF true (oT 48 nD ([[.int 1,.int 1,.int (rI (nth pieces (Int.toNat k)) 1),.int (rI (nth pieces (Int.toNat k)) 0),.int 0,.int nL]])) then
      ov (nK (k+1)) (nD++([[.int 1,.int 1,.int (rI (nth pieces (Int.toNat k)) 1),.int (rI (nth pieces (Int.toNat k)) 0),.int 0,.int nL]]))
     else jK
   else bif !(YJ (⟨1,0,rI (nth pieces (Int.toNat k)) 1,rI (nth pieces (Int.toNat k)) 0,0,nL⟩:pE)) then k_ []
   else bif DF true (oT 48 nD ([[.int 1,.int 0,.int (rI (nth pieces (Int.toNat k)) 1),.int (rI (nth pieces (Int.toNat k)) 0),.int 0,.int nL]])) then
     ov (nK (k+1)) (nD++([[.int 1,.int 0,.int (rI (nth pieces (Int.toNat k)) 1),.int (rI (nth pieces (Int.toNat k)) 0),.int 0,.int nL]]))
    else jK
  else jK
 else k_ nD
def rW (k_:Rows→α) (N:Nat) (pieces:Rows) (nL:Int) (m_:Nat):Int→Rows→α:=
 Nat.rec (motive:=fun _=>Int→Rows→α) (fun _ _=>jK) (fun _ ov=>uV jK k_ pieces nL ov) m_
theorem Oo (k_:Rows→α) (N:Nat) (pieces:Rows) (nL:Int) (m_:Nat):rW jK k_ N pieces nL (m_+1)=uV jK k_ pieces nL (rW jK k_ N pieces nL m_):=rfl
def yC {α:Type} (jK:α) (k_:Rows→α) (l0:Int→Rows→α) (pieces:Rows) (size nL:Int):α:=
 bif bif (len pieces)==0 then true else bif !(uM pieces) then true else bif !(nf size 1 128) then true else !(YJ (pE.na (nth ([[.int 2,.int 0,.int 0,.int 0,.int size,.int nL]]) 0) 0)) then k_ []
 else l0 0 ([[.int 2,.int 0,.int 0,.int 0,.int size,.int nL]])
def RH (k_:Rows→α) (N:Nat) (pieces:Rows) (size nL:Int):α:=yC jK k_ (rW jK k_ N pieces nL N) pieces size nL
theorem nej (k_:Rows→α) (pieces:Rows) (size nL:Int) (vl:Gk (.sl [.i,.i]) (.sl pieces)):∃N,RH jK k_ N pieces size nL=k_ (rN pieces size nL):=by
 obtain⟨hl,hw⟩:=oy vl
 refine⟨pieces.length+2, ?_⟩
 unfold RH yC rN
 have dV:∀(o:Rows) (x:List DC),o.length≤100→oT 48 o [x]=true:=fun o x h=>qY (by simp only[List.length_cons,List.length_nil];omega) (by omega)
 have nAb:(!(YJ (pE.na (nth ([[.int 2,.int 0,.int 0,.int 0,.int size,.int nL]]) 0) 0)))=ni2 (Vh size nL):=rfl
 rw[nAb]
 have hre:∀(a b c:Bool) (R:Rows),(bif bif a then true else bif b then true else bif c then true else ni2 (Vh size nL) then k_ [] else bif (nd7 pieces.length nL pieces 0).any ni2 then k_ [] else k_ R)=k_ (bif bif a then true else bif b then true else c then [] else bif (Vh size nL::nd7 pieces.length nL pieces 0).any ni2 then [] else R):=by
  intro a b c R
  simp only[List.any_cons]
  cases a<;>cases b<;>cases c<;>cases ni2 (Vh size nL)<;>cases (nd7 pieces.length nL pieces 0).any ni2<;>rfl
 refine Eq.trans ?_ (hre _ _ _ _)
 refine cond_congr rfl (fun _=>rfl) (fun hg=> ?_)
 have hp:uM pieces=true:=by
  revert hg
  cases (len pieces)==0<;>cases uM pieces<;>simp
 have nAc:=PV hp
 have key:=nby pieces (fun n i o=>rW jK k_ (pieces.length+2) pieces nL n i o) (fun i r c o=>bif ni2 (npb pieces.length nL i r) then k_ [] else c (o++[npb pieces.length nL i r])) (fun o=>k_ o) 1 (fun i r c d s h=>by rw[h _ (by simp)]) ?_ ?_ pieces.length 0 [Vh size nL] (pieces.length+2) (by omega) (by omega) (by simp)
 ·refine key.trans ?_
  rw[List.drop_zero,nzn]
  rfl
 ·intro n i o hi ho
  show rW jK k_ (pieces.length+2) pieces nL (n+1) (i:Int) o=_
  rw[Oo]
  simp only[uV,oV hi,nT hi,n_ hi hl,Int.toNat_natCast,dV o _ (by omega),nc,cond_true,npb]
  simp only[len]
  cases ((i:Nat):Int)==nK ((pieces.length:Int) - 1)<;>rfl
 ·intro n o ho
  show rW jK k_ (pieces.length+2) pieces nL (n+1) (pieces.length:Int) o=_
  rw[Oo]
  simp only[uV,nQ,cond_false]
theorem noZ {b:Bool} (h:(!b)=false):b=true:=by cases b<;>simp_all
theorem tJ {b:Bool} (h:b=true):DF true b=true:=by rw[h];rfl
theorem noz {p:nk} :(nU p).2=rA p:=by
 unfold nU
 cases hs:rA p
 ·rfl
 have he:vP (qo p)=true:=by
  have hb:=nwG (nwE (⟨p.Tos,p.Id,p.Ttl,p.rZ.Kind,p.qC,p.rl,(rm p.qC p.rl p.rZ).1⟩:wV)) (show 46≤400 by omega)
  have h1:nf p.xe 0 281474976710655=true∧nf p.xf 0 281474976710655=true∧nf p.sO (-1) 4095=true:=by
   unfold rA zo at hs
   revert hs
   cases nf p.xe 0 281474976710655<;>cases nf p.xf 0 281474976710655<;>cases nf p.sO (-1) 4095<;>simp
  have h2:nf (len (qo p).Body) 46 400=true:=n0.2 ⟨by simp only[len,qo];omega,by simp only[len,qo];omega⟩
  have h3:nf (qo p).zh 1536 65535=true:=by rfl
  have h4:((qo p).zh != 33024)=true:=by rfl
  unfold vP xG
  simp only[show nf (qo p).Ua 0 281474976710655=true from h1.1,show nf (qo p).Src 0 281474976710655=true from h1.2.1,show nf (qo p).sO (-1) 4095=true from h1.2.2,h2,h3,h4,cond_true,id]
 simp only[Bool.not_true,cond_false]
 unfold v_
 rw[he]
 rfl
theorem nxI {α:Type} (f:List DC→List DC) (fin:Rows→α):∀(l:Rows) (i:Nat) (o:Rows),sB (σ:=Rows) (fun _ r c o=>c (o++[f r])) fin l i o=fin (o++l.map f)
 | [],_,o=>by simp [sB]
 | r::rs,i,o=>by
  simp only[sB]
  have:=nxI f fin rs (i+1) (o++[f r])
  rw[this,List.append_assoc]
  rfl
theorem nvS (p:nk):(sU p).2=rA p:=by
 rw[←noz]
 unfold sU
 cases (nU p).2<;>rfl
def Xq (k_:pE→Bool→α) (s:Bytes):α:=
 let z0:pE:=(⟨0,0,0,0,0,0⟩:pE)
 let z1:pE:=(⟨nK (tK s 0),nK (tK s 1),oM s 2,q_ s 4,oM s 8,oM s 10⟩:pE)
 bif (len s) != 16 then k_ z0 false
 else bif DF (DF true (idx 0 s)) (idx 1 s) then
   bif !((Vb z1)==s) then k_ z0 false
   else k_ z1 true
  else jK
def descOf (s:Bytes):pE:=⟨nK (tK s 0),nK (tK s 1),oM s 2,q_ s 4,oM s 8,oM s 10⟩
def p8 (s:Bytes):pE×Bool:=bif (len s) != 16 then (⟨0,0,0,0,0,0⟩,false) else bif !((Vb (descOf s))==s) then (⟨0,0,0,0,0,0⟩,false) else (descOf s,true)
theorem Xp (k_:pE→Bool→α) (s:Bytes):Xq jK k_ s=k_ (p8 s).1 (p8 s).2:=by
 unfold Xq p8
 dsimp only
 refine pj (K:=fun r:pE×Bool=>k_ r.1 r.2) (fun _=>rfl) (fun hg=> ?_)
 have h16:len s=16:=by simpa using hg
 have db:∀j:Int,0≤j→j<16→idx j s=true:=by
  intro j h1 h2
  simp only[len] at h16
  simp only[idx,Bool.and_eq_true,decide_eq_true_eq]
  omega
 refine pn (by rw[db 0 (by omega) (by omega),db 1 (by omega) (by omega)];rfl) ?_
 exact Jk (K:=fun r:pE×Bool=>k_ r.1 r.2) rfl rfl
def ncp (k_:Bytes→ny→Bool→α) (list_:Rows) (m:nd) (domain:Int) (r:ny):α:=
 let z0:Bytes×Bool:=ua list_ m domain (we r r.Head) 16
 bif bif !(pJ r) then true else (og r)==0 then k_ [] r false
 else bif !z0.2 then k_ [] r false
 else bif DF true (!((nK (2*r.nR))==0)) then
   k_ z0.1 (⟨r.oR,r.nR,Int.tmod (nK (r.Head+1)) (nK (2*r.nR)),r.pV⟩:ny) true
  else jK
def oJ (list_:Rows) (m:nd) (domain:Int) (r:ny):Bytes×ny×Bool:=
 bif bif !(pJ r) then true else (og r)==0 then ([],r,false)
 else bif !(ua list_ m domain (we r r.Head) 16).2 then ([],r,false)
 else ((ua list_ m domain (we r r.Head) 16).1,⟨r.oR,r.nR,Int.tmod (nK (r.Head+1)) (nK (2*r.nR)),r.pV⟩,true)
theorem wT {r:ny} (h:pJ r=true):vx r.nR=true∧og r=(r.pV - r.Head) % (2*r.nR)∧og r≤r.nR∧0≤r.Head∧r.Head<2*r.nR∧0≤r.pV∧r.pV<2*r.nR∧2≤r.nR∧r.nR≤16:=by
 have hs:=PG h
 unfold pJ yw at h
 simp only[id] at h
 rw[nF (n:=2*r.nR) (by omega) (by omega),nF (n:=2*r.nR - 1) (by omega) (by omega)] at h
 cases h1:vx r.nR
 ·rw[h1] at h
  revert h
  cases nf r.oR 0 130944<;>simp
 cases h2:nf r.Head 0 (2*r.nR - 1)
 ·rw[h1,h2] at h
  revert h
  cases nf r.oR 0 130944<;>simp
 cases h3:nf r.pV 0 (2*r.nR - 1)
 ·rw[h1,h2,h3] at h
  revert h
  cases nf r.oR 0 130944<;>simp
 rw[h1,h2,h3] at h
 have h4:og r≤r.nR:=by
  revert h
  cases nf r.oR 0 130944<;>simp
 have a:=n0.1 h2
 have b:=n0.1 h3
 refine⟨rfl, ?_,h4, ?_⟩
 ·unfold og
  rw[h1]
  rfl
 ·omega
theorem nxR {r:ny} (h:pJ r=true) {hd:Int} (h0:0≤hd) (h1:hd<2*r.nR) (hu:(r.pV - hd) % (2*r.nR)≤r.nR):
  pJ ⟨r.oR,r.nR,hd,r.pV⟩=true∧og ⟨r.oR,r.nR,hd,r.pV⟩=(r.pV - hd) % (2*r.nR):=by
 obtain⟨f1,f2,f3,f4,f5,f6,f7,f8,f9⟩:=wT h
 have Fu:og ⟨r.oR,r.nR,hd,r.pV⟩=(r.pV - hd) % (2*r.nR):=by
  unfold og
  rw[f1]
  rfl
 refine⟨?_,Fu⟩
 have hb:nf r.oR 0 130944=true:=by
  unfold pJ yw at h
  revert h
  cases nf r.oR 0 130944<;>simp
 unfold pJ yw
 simp only[id]
 rw[Fu]
 rw[nF (n:=2*r.nR) (by omega) (by omega),nF (n:=2*r.nR - 1) (by omega) (by omega)]
 rw[hb,f1,show nf hd 0 (2*r.nR - 1)=true from n0.2 ⟨h0,by omega⟩,show nf r.pV 0 (2*r.nR - 1)=true from n0.2 ⟨f6,by omega⟩]
 exact decide_eq_true hu
theorem Su {l:Rows} {m:nd} {d:Int} {r:ny} (h:pJ r=true) (hu:0<og r) (ht:(oJ l m d r).2.2=true):
  (oJ l m d r).2.1=⟨r.oR,r.nR,(oJ l m d r).2.1.Head,r.pV⟩∧pJ (oJ l m d r).2.1=true∧og (oJ l m d r).2.1=og r - 1:=by
 obtain⟨f1,f2,f3,f4,f5,f6,f7,f8,f9⟩:=wT h
 unfold oJ at ht ⊢
 rw[h,show ((og r)==0)=false from beq_eq_false_iff_ne.2 (by omega)] at ht ⊢
 simp only[Bool.not_true,cond_false] at ht ⊢
 cases hd:(ua l m d (we r r.Head) 16).2
 ·rw[hd] at ht;cases ht
 simp only[Bool.not_true,cond_false]
 have e:Int.tmod (nK (r.Head+1)) (nK (2*r.nR))=(r.Head+1) % (2*r.nR):=by
  rw[nF (n:=r.Head+1) (by omega) (by omega),nF (n:=2*r.nR) (by omega) (by omega)]
  exact Int.tmod_eq_emod_of_nonneg (by omega)
 have e2:(r.pV - (r.Head+1) % (2*r.nR)) % (2*r.nR)=og r - 1:=by
  rw[f2] at hu f3 ⊢
  rw[Int.sub_emod,Int.emod_emod_of_dvd _ (Int.dvd_refl _),←Int.sub_emod]
  generalize hS:2*r.nR=S at*
  have k1:=Int.emod_nonneg (r.pV - r.Head) (show S≠0 by omega)
  have k2:=Int.emod_lt_of_pos (r.pV - r.Head) (show 0<S by omega)
  rw[show r.pV - (r.Head+1)=(r.pV - r.Head) - 1 by omega,Int.sub_emod]
  have k3:(1:Int) % S=1:=Int.emod_eq_of_lt (by omega) (by omega)
  rw[k3]
  exact Int.emod_eq_of_lt (by omega) (by omega)
 have p1:=Int.emod_nonneg (r.Head+1) (show 2*r.nR≠0 by omega)
 have p2:=Int.emod_lt_of_pos (r.Head+1) (show 0<2*r.nR by omega)
 have k:=nxR h p1 p2 (by rw[e2];omega)
 rw[e]
 exact⟨trivial,k.1,k.2.trans e2⟩
theorem nco (k_:Bytes→ny→Bool→α) (list_:Rows) (m:nd) (domain:Int) (r:ny):ncp jK k_ list_ m domain r=k_ (oJ list_ m domain r).1 (oJ list_ m domain r).2.1 (oJ list_ m domain r).2.2:=by
 unfold ncp oJ
 dsimp only
 refine pj (K:=fun r:Bytes×ny×Bool=>k_ r.1 r.2.1 r.2.2) (fun _=>rfl) (fun hg=> ?_)
 refine pj (K:=fun r:Bytes×ny×Bool=>k_ r.1 r.2.1 r.2.2) (fun _=>rfl) (fun _=> ?_)
 have hr:pJ r=true:=by
  revert hg
  cases pJ r<;>simp
 have hs:=PG hr
 have hz:(!((nK (2*r.nR))==0))=true:=by
  rw[nF (by omega) (by omega)]
  simp;omega
 refine pn (tJ hz) rfl
def yM (k_:Rows→ny→Bool→α) (list_:Rows) (domain:Int) (qi:Rows) (empty yD yE yF:Int) (ov:Int→Int→Int→Int→Rows→α) (r_1 r_2 r_3 r_4:Int) (nD:Rows):α:=
 let z0:Bytes×ny×Bool:=oJ list_ (⟨qi⟩:nd) domain (⟨r_1,r_2,r_3,r_4⟩:ny)
 let z1:pE×Bool:=p8 z0.1
 let z2:pE:=z1.1
 bif decide (0<og (⟨r_1,r_2,r_3,r_4⟩:ny)) then
  bif !z0.2.2 then k_ [] (⟨empty,yD,yE,yF⟩:ny) false
  else bif !z1.2 then k_ [] (⟨empty,yD,yE,yF⟩:ny) false
  else bif DF true (oT 48 nD [pE.enc z2]) then
    bif bif z2.Op==1 then (bits .and .i64 z2.Flags 1) != 0 else false then k_ (nD++[pE.enc z2]) z0.2.1 true
    else ov z0.2.1.oR z0.2.1.nR z0.2.1.Head z0.2.1.pV (nD++[pE.enc z2])
   else jK
 else k_ nD (⟨r_1,r_2,r_3,r_4⟩:ny) true
def wy (k_:Rows→ny→Bool→α) (N:Nat) (list_:Rows) (domain:Int) (qi:Rows) (empty yD yE yF:Int) (m_:Nat):Int→Int→Int→Int→Rows→α:=
 Nat.rec (motive:=fun _=>Int→Int→Int→Int→Rows→α) (fun _ _ _ _ _=>jK) (fun _ ov=>yM jK k_ list_ domain qi empty yD yE yF ov) m_
theorem Up (k_:Rows→ny→Bool→α) (N:Nat) (list_:Rows) (domain:Int) (qi:Rows) (empty yD yE yF:Int) (m_:Nat):wy jK k_ N list_ domain qi empty yD yE yF (m_+1)=yM jK k_ list_ domain qi empty yD yE yF (wy jK k_ N list_ domain qi empty yD yE yF m_):=rfl
def RP {α:Type} (jK:α) (k_:Rows→ny→Bool→α) (l0:Rows→Int→Int→Int→Int→Int→Int→Int→Int→Rows→α) (list_:Rows) (m:nd) (domain:Int) (r:ny):α:=
 bif bif !(pJ r) then true else (og r)==0 then k_ [] r false
 else l0 m.nV r.oR r.nR r.pV r.pV r.oR r.nR r.Head r.pV []
def Zu (k_:Rows→ny→Bool→α) (N:Nat) (list_:Rows) (m:nd) (domain:Int) (r:ny):α:=RP jK k_ (fun qi empty yD yE yF=>wy jK k_ N list_ domain qi empty yD yE yF N) list_ m domain r
def nhP (list_:Rows) (m:nd) (domain:Int):Nat→ny→Rows→Rows×ny×Bool
 | 0,r,o=>(o,r,true)
 | n+1,r,o=>bif decide (0<og r) then
   bif bif !(oJ list_ m domain r).2.2 then true else !(p8 (oJ list_ m domain r).1).2 then ([],⟨r.oR,r.nR,r.pV,r.pV⟩,false)
   else bif bif (p8 (oJ list_ m domain r).1).1.Op==1 then (bits .and .i64 (p8 (oJ list_ m domain r).1).1.Flags 1) != 0 else false then (o++[pE.enc (p8 (oJ list_ m domain r).1).1],(oJ list_ m domain r).2.1,true)
   else nhP list_ m domain n (oJ list_ m domain r).2.1 (o++[pE.enc (p8 (oJ list_ m domain r).1).1])
  else (o,r,true)
def oI (list_:Rows) (m:nd) (domain:Int) (r:ny):Rows×ny×Bool:=bif bif !(pJ r) then true else (og r)==0 then ([],r,false) else nhP list_ m domain 16 r []
theorem nod {r:ny} (h:pJ r=true):pJ ⟨r.oR,r.nR,r.pV,r.pV⟩=true∧og ⟨r.oR,r.nR,r.pV,r.pV⟩=0:=by
 obtain⟨f1,f2,f3,f4,f5,f6,f7,f8,f9⟩:=wT h
 have e:(r.pV - r.pV) % (2*r.nR)=0:=by rw[Int.sub_self];exact Int.zero_emod _
 have k:=nxR h f6 f7 (by rw[e];omega)
 exact⟨k.1,k.2.trans e⟩
theorem ng2 {l:Rows} {m:nd} {d:Int} :∀(n:Nat) (x:ny) (o:Rows),pJ x=true→pJ (nhP l m d n x o).2.1=true∧og (nhP l m d n x o).2.1≤og x∧(nhP l m d n x o).1.length≤o.length+n
 | 0,x,o,h=>⟨h,Int.le_refl _,Nat.le_refl _⟩
 | n+1,x,o,h=>by
  unfold nhP
  by_cases hu:0<og x
  ·rw[decide_eq_true hu,cond_true]
   cases ht:(oJ l m d x).2.2
   ·have k:=nod h
    refine⟨k.1, ?_,Nat.zero_le _⟩
    show og ⟨x.oR,x.nR,x.pV,x.pV⟩≤og x
    rw[k.2];omega
   obtain⟨a,b,c⟩:=Su h hu ht
   cases (p8 (oJ l m d x).1).2
   ·have k:=nod h
    refine⟨k.1, ?_,Nat.zero_le _⟩
    show og ⟨x.oR,x.nR,x.pV,x.pV⟩≤og x
    rw[k.2];omega
   simp only[Bool.not_true,cond_false]
   cases (bif (p8 (oJ l m d x).1).1.Op==1 then (bits .and .i64 (p8 (oJ l m d x).1).1.Flags 1) != 0 else false)
   ·obtain⟨k1,k2,k3⟩:=ng2 (l:=l) (m:=m) (d:=d) n (oJ l m d x).2.1 (o++[pE.enc (p8 (oJ l m d x).1).1]) b
    simp only[cond_false]
    simp only[List.length_append,List.length_cons,List.length_nil] at k3
    exact⟨k1,by omega,by omega⟩
   ·exact⟨b,by show og (oJ l m d x).2.1≤og x;omega,by simp only[cond_true,List.length_append,List.length_cons,List.length_nil];omega⟩
  ·rw[decide_eq_false hu,cond_false]
   exact⟨h,Int.le_refl _,by show o.length≤_;omega⟩
theorem Vg {l:Rows} {m:nd} {d:Int} {x:ny} (h:pJ x=true) (hu:og x≠0):pJ (oI l m d x).2.1=true∧og (oI l m d x).2.1<og x∧(oI l m d x).1.length≤16:=by
 have f:=wT h
 have hp:0<og x:=by
  rw[f.2.1] at hu ⊢
  have:=Int.emod_nonneg (x.pV - x.Head) (show 2*x.nR≠0 by omega)
  omega
 unfold oI
 rw[h,show ((og x)==0)=false from beq_eq_false_iff_ne.2 hu]
 simp only[Bool.not_true,cond_false]
 have h3:=(ng2 (l:=l) (m:=m) (d:=d) 16 x [] h).2.2
 refine⟨(ng2 16 x [] h).1, ?_,by simpa using h3⟩
 show og (nhP l m d (15+1) x []).2.1<og x
 unfold nhP
 rw[decide_eq_true hp,cond_true]
 have k:=nod h
 cases ht:(oJ l m d x).2.2
 ·show og ⟨x.oR,x.nR,x.pV,x.pV⟩<og x
  rw[k.2];exact hp
 obtain⟨a,b,c⟩:=Su h hp ht
 cases (p8 (oJ l m d x).1).2
 ·show og ⟨x.oR,x.nR,x.pV,x.pV⟩<og x
  rw[k.2];exact hp
 simp only[Bool.not_true,cond_false]
 cases (bif (p8 (oJ l m d x).1).1.Op==1 then (bits .and .i64 (p8 (oJ l m d x).1).1.Flags 1) != 0 else false)
 ·have:=(ng2 (l:=l) (m:=m) (d:=d) 15 (oJ l m d x).2.1 ([]++[pE.enc (p8 (oJ l m d x).1).1]) b).2.1
  simp only[cond_false]
  omega
 ·simp only[cond_true]
  omega
theorem nmL (k_:Rows→ny→Bool→α) (list_:Rows) (m:nd) (domain:Int) (r:ny):∃N,Zu jK k_ N list_ m domain r=k_ (oI list_ m domain r).1 (oI list_ m domain r).2.1 (oI list_ m domain r).2.2:=by
 unfold Zu RP oI
 refine⟨20, ?_⟩
 refine pj (K:=fun z:Rows×ny×Bool=>k_ z.1 z.2.1 z.2.2) (fun _=>rfl) (fun hg=> ?_)
 have hr:pJ r=true:=by
  revert hg
  cases pJ r<;>simp
 have key:∀(n:Nat) (x:ny) (o:Rows) (N:Nat),og x≤n→n<N→n≤16→pJ x=true→x.oR=r.oR→x.nR=r.nR→x.pV=r.pV→o.length+n≤16→
   wy jK k_ 20 list_ domain m.nV r.oR r.nR r.pV r.pV N x.oR x.nR x.Head x.pV o=(fun z:Rows×ny×Bool=>k_ z.1 z.2.1 z.2.2) (nhP list_ m domain n x o):=by
  intro n
  induction n with
  | zero=>
   intro x o N h1 h2 h3 h4 h5 h6 h7 h8
   obtain⟨N,rfl⟩:∃q,N=q+1:=⟨N - 1,by omega⟩
   rw[Up]
   simp only[yM,decide_eq_false (show ¬0<og (⟨x.oR,x.nR,x.Head,x.pV⟩:ny) by show ¬0<og x;omega),cond_false,nhP]
  | succ n ih=>
   intro x o N h1 h2 h3 h4 h5 h6 h7 h8
   obtain⟨N,rfl⟩:∃q,N=q+1:=⟨N - 1,by omega⟩
   rw[Up]
   have dV:∀y:List DC,oT 48 o [y]=true:=fun y=>qY (by simp only[List.length_cons,List.length_nil];omega) (by omega)
   have hx:(⟨x.oR,x.nR,x.Head,x.pV⟩:ny)=x:=rfl
   have hm:(⟨m.nV⟩:nd)=m:=rfl
   simp only[yM,nhP,hx,hm,dV,nc,cond_true]
   refine pj (K:=fun z:Rows×ny×Bool=>k_ z.1 z.2.1 z.2.2) (fun hu=> ?_) (fun _=>rfl)
   have hu:=of_decide_eq_true hu
   have step:(oJ list_ m domain x).2.2=true→wy jK k_ 20 list_ domain m.nV r.oR r.nR r.pV r.pV N (oJ list_ m domain x).2.1.oR (oJ list_ m domain x).2.1.nR (oJ list_ m domain x).2.1.Head (oJ list_ m domain x).2.1.pV (o++[pE.enc (p8 (oJ list_ m domain x).1).1])=(fun z:Rows×ny×Bool=>k_ z.1 z.2.1 z.2.2) (nhP list_ m domain n (oJ list_ m domain x).2.1 (o++[pE.enc (p8 (oJ list_ m domain x).1).1])):=by
    intro ht
    obtain⟨a,b,c⟩:=Su h4 hu ht
    refine ih _ _ N (by omega) (by omega) (by omega) b ?_ ?_ ?_ (by simp only[List.length_append,List.length_cons,List.length_nil];omega)
    ·rw[a];exact h5
    ·rw[a];exact h6
    ·rw[a];exact h7
   cases ht:(oJ list_ m domain x).2.2
   ·simp only[Bool.not_false,cond_true,h5,h6,h7]
   have step:=step ht
   simp only[Bool.not_true,cond_false]
   cases (p8 (oJ list_ m domain x).1).2
   ·simp only[Bool.not_false,cond_true,h5,h6,h7]
   simp only[Bool.not_true,cond_false]
   refine pj (K:=fun z:Rows×ny×Bool=>k_ z.1 z.2.1 z.2.2) (fun _=>rfl) (fun _=>step)
 obtain⟨f1,f2,f3,f4,f5,f6,f7,f8,f9⟩:=wT hr
 exact key 16 r [] 20 (by omega) (by omega) (by omega) hr rfl rfl rfl (by simp)
def zb (k_:Rows→ny→Bool→α) (list_:Rows) (domain:Int) (qi:Rows) (ov:Int→Int→Int→Int→Rows→α) (r_1 r_2 r_3 r_4:Int) (nD:Rows):α:=
 let z0:Bytes×ny×Bool:=oJ list_ (⟨qi⟩:nd) domain (⟨r_1,r_2,r_3,r_4⟩:ny)
 let z1:pE×Bool:=p8 z0.1
 let z2:pE:=z1.1
 bif decide (0<og (⟨r_1,r_2,r_3,r_4⟩:ny)) then
  bif bif !z0.2.2 then true else !z1.2 then k_ [] (⟨r_1,r_2,r_4,r_4⟩:ny) false
  else bif DF true (oT 48 nD [pE.enc z2]) then
    bif bif z2.Op==1 then (bits .and .i64 z2.Flags 1) != 0 else false then k_ (nD++[pE.enc z2]) z0.2.1 true
    else ov z0.2.1.oR z0.2.1.nR z0.2.1.Head z0.2.1.pV (nD++[pE.enc z2])
   else jK
 else k_ nD (⟨r_1,r_2,r_3,r_4⟩:ny) true
def wM (k_:Rows→ny→Bool→α) (N:Nat) (list_:Rows) (domain:Int) (qi:Rows) (m_:Nat):Int→Int→Int→Int→Rows→α:=
 Nat.rec (motive:=fun _=>Int→Int→Int→Int→Rows→α) (fun _ _ _ _ _=>jK) (fun _ ov=>zb jK k_ list_ domain qi ov) m_
theorem UZ (k_:Rows→ny→Bool→α) (N:Nat) (list_:Rows) (domain:Int) (qi:Rows) (m_:Nat):wM jK k_ N list_ domain qi (m_+1)=zb jK k_ list_ domain qi (wM jK k_ N list_ domain qi m_):=rfl
def Sq {α:Type} (jK:α) (k_:Rows→ny→Bool→α) (l0:Rows→Int→Int→Int→Int→Rows→α) (list_:Rows) (m:nd) (domain:Int) (r:ny):α:=
 bif bif !(pJ r) then true else (og r)==0 then k_ [] r false
 else l0 m.nV r.oR r.nR r.Head r.pV []
def na4 (k_:Rows→ny→Bool→α) (N:Nat) (list_:Rows) (m:nd) (domain:Int) (r:ny):α:=Sq jK k_ (fun qi=>wM jK k_ N list_ domain qi N) list_ m domain r
theorem noq (k_:Rows→ny→Bool→α) (list_:Rows) (m:nd) (domain:Int) (r:ny):∃N,na4 jK k_ N list_ m domain r=k_ (oI list_ m domain r).1 (oI list_ m domain r).2.1 (oI list_ m domain r).2.2:=by
 unfold na4 Sq oI
 refine⟨20, ?_⟩
 refine pj (K:=fun z:Rows×ny×Bool=>k_ z.1 z.2.1 z.2.2) (fun _=>rfl) (fun hg=> ?_)
 have hr:pJ r=true:=by
  revert hg
  cases pJ r<;>simp
 have key:∀(n:Nat) (x:ny) (o:Rows) (N:Nat),og x≤n→n<N→n≤16→pJ x=true→x.oR=r.oR→x.nR=r.nR→x.pV=r.pV→o.length+n≤16→
   wM jK k_ 20 list_ domain m.nV N x.oR x.nR x.Head x.pV o=(fun z:Rows×ny×Bool=>k_ z.1 z.2.1 z.2.2) (nhP list_ m domain n x o):=by
  intro n
  induction n with
  | zero=>
   intro x o N h1 h2 h3 h4 h5 h6 h7 h8
   obtain⟨N,rfl⟩:∃q,N=q+1:=⟨N - 1,by omega⟩
   rw[UZ]
   simp only[zb,decide_eq_false (show ¬0<og (⟨x.oR,x.nR,x.Head,x.pV⟩:ny) by show ¬0<og x;omega),cond_false,nhP]
  | succ n ih=>
   intro x o N h1 h2 h3 h4 h5 h6 h7 h8
   obtain⟨N,rfl⟩:∃q,N=q+1:=⟨N - 1,by omega⟩
   rw[UZ]
   have dV:∀y:List DC,oT 48 o [y]=true:=fun y=>qY (by simp only[List.length_cons,List.length_nil];omega) (by omega)
   have hx:(⟨x.oR,x.nR,x.Head,x.pV⟩:ny)=x:=rfl
   have hm:(⟨m.nV⟩:nd)=m:=rfl
   simp only[zb,nhP,hx,hm,dV,nc,cond_true]
   refine pj (K:=fun z:Rows×ny×Bool=>k_ z.1 z.2.1 z.2.2) (fun hu=> ?_) (fun _=>rfl)
   have hu:=of_decide_eq_true hu
   have step:(oJ list_ m domain x).2.2=true→wM jK k_ 20 list_ domain m.nV N (oJ list_ m domain x).2.1.oR (oJ list_ m domain x).2.1.nR (oJ list_ m domain x).2.1.Head (oJ list_ m domain x).2.1.pV (o++[pE.enc (p8 (oJ list_ m domain x).1).1])=(fun z:Rows×ny×Bool=>k_ z.1 z.2.1 z.2.2) (nhP list_ m domain n (oJ list_ m domain x).2.1 (o++[pE.enc (p8 (oJ list_ m domain x).1).1])):=by
    intro ht
    obtain⟨a,b,c⟩:=Su h4 hu ht
    refine ih _ _ N (by omega) (by omega) (by omega) b ?_ ?_ ?_ (by simp only[List.length_append,List.length_cons,List.length_nil];omega)
    ·rw[a];exact h5
    ·rw[a];exact h6
    ·rw[a];exact h7
   cases ht:(oJ list_ m domain x).2.2
   ·simp only[Bool.not_false,cond_true]
   have step:=step ht
   simp only[Bool.not_true,cond_false]
   cases (p8 (oJ list_ m domain x).1).2
   ·simp only[Bool.not_false,cond_true]
   simp only[Bool.not_true,cond_false]
   refine pj (K:=fun z:Rows×ny×Bool=>k_ z.1 z.2.1 z.2.2) (fun _=>rfl) (fun _=>step)
 obtain⟨f1,f2,f3,f4,f5,f6,f7,f8,f9⟩:=wT hr
 exact key 16 r [] 20 (by omega) (by omega) (by omega) hr rfl rfl rfl (by simp)
def Pf (k_:Bool→α) (a b:Rows) (ov:Int→α) (k:Int):α:=
 bif decide (k<len a) then
  bif DF (DF true (idx k a)) (idx k b) then
   bif !(bif (rI (nth a (Int.toNat k)) 0)==(rI (nth b (Int.toNat k)) 0) then bif (rI (nth a (Int.toNat k)) 1)==(rI (nth b (Int.toNat k)) 1) then bif (rI (nth a (Int.toNat k)) 2)==(rI (nth b (Int.toNat k)) 2) then bif (rI (nth a (Int.toNat k)) 3)==(rI (nth b (Int.toNat k)) 3) then bif (rI (nth a (Int.toNat k)) 4)==(rI (nth b (Int.toNat k)) 4) then bif (rI (nth a (Int.toNat k)) 5)==(rI (nth b (Int.toNat k)) 5) then true else false else false else false else false else false else false) then k_ false
   else ov (nK (k+1))
  else jK
 else k_ true
def Pc (k_:Bool→α) (N:Nat) (a b:Rows) (m_:Nat):Int→α:=
 Nat.rec (motive:=fun _=>Int→α) (fun _=>jK) (fun _ ov=>Pf jK k_ a b ov) m_
theorem YE (k_:Bool→α) (N:Nat) (a b:Rows) (m_:Nat):Pc jK k_ N a b (m_+1)=Pf jK k_ a b (Pc jK k_ N a b m_):=rfl
def Xa {α:Type} (jK:α) (k_:Bool→α) (l0:Int→α) (a b:Rows):α:=
 bif (len a) != (len b) then k_ false
 else l0 0
def ngy (k_:Bool→α) (N:Nat) (a b:Rows):α:=Xa jK k_ (Pc jK k_ N a b N) a b
def nvH (r q:List DC):Bool:=bif (rI r 0)==(rI q 0) then bif (rI r 1)==(rI q 1) then bif (rI r 2)==(rI q 2) then bif (rI r 3)==(rI q 3) then bif (rI r 4)==(rI q 4) then bif (rI r 5)==(rI q 5) then true else false else false else false else false else false else false
def nbx (a b:Rows):Bool:=bif (len a) != (len b) then false else !(qQ (fun i r=> !(nvH r (nth b i))) a 0)
def noa (r:List DC):List DC:=[.int (rI r 3),.int (rI r 2)]
def ny_ (l:Rows):Rows:=rN (l.tail.map noa) (rI (nth l 0) 4) (rI (nth l 0) 5)
def nfW (l:Rows):Bool:=decide (l.length≤1000)
def ot (l:Rows):Rows×Int×Int×Bool:=bif bif decide (len l<2) then true else !(nbx (ny_ l) l) then ([],0,0,false) else (l.tail.map noa,rI (nth l 0) 4,rI (nth l 0) 5,true)
theorem nt3 (k_:Bool→α) (a b:Rows) (qj:Gk (.sl [.i,.i,.i,.i,.i,.i]) (.sl a)):∃N,ngy jK k_ N a b=k_ (nbx a b):=by
 obtain⟨hl,_⟩:=oy qj
 refine⟨a.length+1, ?_⟩
 unfold ngy Xa nbx
 refine pj (fun _=>rfl) (fun hg=> ?_)
 have hab:a.length=b.length:=by
  have:len a=len b:=by simpa using hg
  simp only[len] at this
  omega
 refine (qW a (Pc jK k_ (a.length+1) a b) (fun i r c=>bif !(nvH r (nth b i)) then k_ false else c) (k_ true) ?_ ?_).trans ?_
 ·intro n i h
  rw[YE]
  simp only[Pf,oV h,nT h,nT (show i<b.length by omega),n_ h hl,Int.toNat_natCast,nc,cond_true]
  rfl
 ·intro n
  rw[YE]
  simp only[Pf,nQ,cond_false]
 ·exact (vb (fun i r=> !(nvH r (nth b i))) (k_ false) (k_ true) a 0).trans (by cases qQ (fun i r=> !(nvH r (nth b i))) a 0<;>rfl)
def tS (k_:Rows→Int→Int→Bool→α) (list_:Rows) (ov:Int→Rows→α) (k:Int) (nD:Rows):α:=
 let z0:Bool:=DF (DF true (idx 0 list_)) (idx 0 list_)
 bif decide (k<len list_) then
  bif DF (DF (DF true (idx k list_)) (idx k list_)) (oT 16 nD ([[.int (rI (nth list_ (Int.toNat k)) 3),.int (rI (nth list_ (Int.toNat k)) 2)]])) then
   ov (nK (k+1)) (nD++([[.int (rI (nth list_ (Int.toNat k)) 3),.int (rI (nth list_ (Int.toNat k)) 2)]]))
  else jK
 else bif KW ((len nD)==0) true z0 then
   bif bif (len nD)==0 then true else !(nbx (rN nD (rI (nth list_ 0) 4) (rI (nth list_ 0) 5)) list_) then k_ [] 0 0 false
   else bif z0 then
     k_ nD (rI (nth list_ 0) 4) (rI (nth list_ 0) 5) true
    else jK
  else jK
def tR (k_:Rows→Int→Int→Bool→α) (N:Nat) (list_:Rows) (m_:Nat):Int→Rows→α:=
 Nat.rec (motive:=fun _=>Int→Rows→α) (fun _ _=>jK) (fun _ ov=>tS jK k_ list_ ov) m_
theorem uD (k_:Rows→Int→Int→Bool→α) (N:Nat) (list_:Rows) (m_:Nat):tR jK k_ N list_ (m_+1)=tS jK k_ list_ (tR jK k_ N list_ m_):=rfl
def zC {α:Type} (jK:α) (k_:Rows→Int→Int→Bool→α) (l0:Int→Rows→α) (list_:Rows):α:=
 l0 1 []
def Tg (k_:Rows→Int→Int→Bool→α) (N:Nat) (list_:Rows):α:=zC jK k_ (tR jK k_ N list_ N) list_
theorem nf5 (k_:Rows→Int→Int→Bool→α) (list_:Rows) (pg:Gk (.sl [.i,.i,.i,.i,.i,.i]) (.sl list_)) (aF:nfW list_=true):∃N,Tg jK k_ N list_=k_ (ot list_).1 (ot list_).2.1 (ot list_).2.2.1 (ot list_).2.2.2:=by
 obtain⟨hl,_⟩:=oy pg
 have hs:list_.length≤1000:=of_decide_eq_true aF
 refine⟨list_.length+2, ?_⟩
 unfold Tg zC ot
 have key:∀(q i:Nat) (o:Rows) (n:Nat),i+1+q=max 1 list_.length→q<n→o=(list_.tail.take i).map noa→
   tR jK k_ (list_.length+2) list_ n ((i:Int)+1) o=tR jK k_ (list_.length+2) list_ 1 ((max 1 list_.length:Nat):Int) (list_.tail.map noa):=by
  intro q
  induction q with
  | zero=>
   intro i o n h1 h2 h3
   obtain⟨n,rfl⟩:∃q,n=q+1:=⟨n - 1,by omega⟩
   have e:(i:Int)+1=((max 1 list_.length:Nat):Int):=by omega
   have e2:list_.tail.take i=list_.tail:=List.take_of_length_le (by rw[List.length_tail];omega)
   rw[h3,e2,e,uD,uD]
   have hf:decide (((max 1 list_.length:Nat):Int)<len list_)=false:=decide_eq_false (by simp only[len];omega)
   simp only[tS,hf,cond_false]
  | succ q ih=>
   intro i o n h1 h2 h3
   obtain⟨n,rfl⟩:∃q,n=q+1:=⟨n - 1,by omega⟩
   have hi:i+1<list_.length:=by omega
   have hol:o.length≤i:=by rw[h3,List.length_map,List.length_take];omega
   have e0:((i:Int)+1)=((i+1:Nat):Int):=by omega
   have dV:∀y:List DC,oT 16 o [y]=true:=fun y=>qY (by simp only[List.length_cons,List.length_nil];omega) (by omega)
   rw[uD]
   rw[e0]
   simp only[tS,oV hi,nT hi,dV,n_ hi hl,Int.toNat_natCast,nc,cond_true]
   refine ih (i+1) _ n (by omega) (by omega) ?_
   have FY:i<list_.tail.length:=by rw[List.length_tail];omega
   rw[List.take_succ_eq_append_getElem FY,List.map_append,←h3]
   have:nth list_ (i+1)=list_.tail[i]:=by simp [nth,List.getD_eq_getElem?_getD,hi]
   rw[this]
   rfl
 refine (key (max 1 list_.length - 1) 0 [] (list_.length+2) (by omega) (by omega) rfl).trans ?_
 rw[uD]
 have hf:decide (((max 1 list_.length:Nat):Int)<len list_)=false:=decide_eq_false (by simp only[len];omega)
 have hz:((len (list_.tail.map noa))==0)=decide (len list_<2):=by
  by_cases h:len list_<2
  ·rw[decide_eq_true h]
   simp only[len,List.length_map,List.length_tail] at h ⊢
   exact beq_iff_eq.2 (by omega)
  ·rw[decide_eq_false h]
   simp only[len,List.length_map,List.length_tail] at h ⊢
   exact beq_eq_false_iff_ne.2 (by omega)
 have h0:len list_<2∨idx 0 list_=true:=by
  by_cases h:len list_<2
  ·exact .inl h
  ·refine .inr ?_
   simp only[len] at h
   simp only[idx,Bool.and_eq_true,decide_eq_true_eq]
   omega
 simp only[tS,hf,cond_false,hz]
 rcases h0 with h0 | h0
 ·have hk:∀Y:Bool,KW true true Y=true:=fun Y=>by cases Y<;>rfl
  simp only[decide_eq_true h0,hk,cond_true]
 ·simp only[h0,nc,zx,cond_true]
  exact Jk (K:=fun z:Rows×Int×Int×Bool=>k_ z.1 z.2.1 z.2.2.1 z.2.2.2) rfl rfl
def tO (k_:Rows→Int→Int→Bool→α) (l1:Rows→Int→Int→Rows→Int→Int→α) (list_ x:Rows) (nZ:Int) (ov:Int→Rows→α) (om:Int) (pieces:Rows):α:=
 let z0:Rows:=rN pieces (rI (nth list_ 0) 4) (rI (nth list_ 0) 5)
 let z1:Int:=len z0
 bif decide (om<nZ) then
  bif DF true (idx om x) then
   bif DF true (oT 16 pieces ([[.int (rI (nth x (Int.toNat om)) 3),.int (rI (nth x (Int.toNat om)) 2)]])) then
    ov (nK (om+1)) (pieces++([[.int (rI (nth x (Int.toNat om)) 3),.int (rI (nth x (Int.toNat om)) 2)]]))
   else jK
  else jK
 else bif DF (DF true (idx 0 list_)) (idx 0 list_) then
   bif z1 != (len list_) then k_ [] 0 0 false
   else l1 pieces (rI (nth list_ 0) 4) (rI (nth list_ 0) 5) z0 z1 0
  else jK
def tP (k_:Rows→Int→Int→Bool→α) (list_ pieces:Rows) (size nL:Int) (want:Rows) (yf:Int) (ih1:Int→α) (ui:Int):α:=
 bif decide (ui<yf) then
  bif DF (DF true (idx ui want)) (idx ui list_) then
   bif !(bif (rI (nth want (Int.toNat ui)) 0)==(rI (nth list_ (Int.toNat ui)) 0) then bif (rI (nth want (Int.toNat ui)) 1)==(rI (nth list_ (Int.toNat ui)) 1) then bif (rI (nth want (Int.toNat ui)) 2)==(rI (nth list_ (Int.toNat ui)) 2) then bif (rI (nth want (Int.toNat ui)) 3)==(rI (nth list_ (Int.toNat ui)) 3) then bif (rI (nth want (Int.toNat ui)) 4)==(rI (nth list_ (Int.toNat ui)) 4) then bif (rI (nth want (Int.toNat ui)) 5)==(rI (nth list_ (Int.toNat ui)) 5) then true else false else false else false else false else false else false) then k_ [] 0 0 false
   else ih1 (nK (ui+1))
  else jK
 else k_ pieces size nL true
def qT (k_:Rows→Int→Int→Bool→α) (N:Nat) (list_ pieces:Rows) (size nL:Int) (want:Rows) (yf:Int) (m_:Nat):Int→α:=
 Nat.rec (motive:=fun _=>Int→α) (fun _=>jK) (fun _ ih1=>tP jK k_ list_ pieces size nL want yf ih1) m_
theorem PK (k_:Rows→Int→Int→Bool→α) (N:Nat) (list_ pieces:Rows) (size nL:Int) (want:Rows) (yf:Int) (m_:Nat):qT jK k_ N list_ pieces size nL want yf (m_+1)=tP jK k_ list_ pieces size nL want yf (qT jK k_ N list_ pieces size nL want yf m_):=rfl
def sf (k_:Rows→Int→Int→Bool→α) (N:Nat) (list_ x:Rows) (nZ:Int) (m_:Nat):Int→Rows→α:=
 Nat.rec (motive:=fun _=>Int→Rows→α) (fun _ _=>jK) (fun _ ov=>tO jK k_ (fun pieces size nL want yf=>qT jK k_ N list_ pieces size nL want yf N) list_ x nZ ov) m_
theorem PJ (k_:Rows→Int→Int→Bool→α) (N:Nat) (list_ x:Rows) (nZ:Int) (m_:Nat) (om:Int) (pieces:Rows):sf jK k_ N list_ x nZ (m_+1) om pieces=tO jK k_ (fun pieces size nL want yf=>qT jK k_ N list_ pieces size nL want yf N) list_ x nZ (sf jK k_ N list_ x nZ m_) om pieces:=rfl
def wq (k_:Rows→Int→Int→Bool→α) (l0:Rows→Int→Int→Rows→α) (list_:Rows):α:=
 bif decide (len list_<2) then k_ [] 0 0 false
 else bif DF true (okL list_ 1) then
   l0 (zE list_ 1) (len (zE list_ 1)) 0 []
  else jK
def wj (k_:Rows→Int→Int→Bool→α) (N:Nat) (list_:Rows):α:=wq jK k_ (fun x nZ=>sf jK k_ N list_ x nZ N) list_
theorem neO (k_:Rows→Int→Int→Bool→α) (list_:Rows) (pg:Gk (.sl [.i,.i,.i,.i,.i,.i]) (.sl list_)) (aF:nfW list_=true):∃N,wj jK k_ N list_=k_ (ot list_).1 (ot list_).2.1 (ot list_).2.2.1 (ot list_).2.2.2:=by
 obtain⟨hl,_⟩:=oy pg
 have hs:list_.length≤1000:=of_decide_eq_true aF
 refine⟨list_.length+2, ?_⟩
 unfold wj wq ot
 by_cases h2:len list_<2
 ·simp only[decide_eq_true h2,cond_true]
 have h2':2≤list_.length:=by simp only[len] at h2;omega
 have g1:okL list_ 1=true:=by simp only[okL,Bool.and_eq_true,decide_eq_true_eq];omega
 have g2:zE list_ 1=list_.tail:=by simp [zE]
 have g3:idx 0 list_=true:=by simp only[idx,Bool.and_eq_true,decide_eq_true_eq];omega
 simp only[decide_eq_false h2,cond_false,g1,g2,nc,cond_true]
 have key:=nby list_.tail (fun n i o=>sf jK k_ (list_.length+2) list_ list_.tail (len list_.tail) n i o) (fun _ r c o=>c (o++[noa r])) (fun o=>bif !(nbx (rN o (rI (nth list_ 0) 4) (rI (nth list_ 0) 5)) list_) then k_ [] 0 0 false else k_ o (rI (nth list_ 0) 4) (rI (nth list_ 0) 5) true) 0 (fun i r c d s h=>h _ (by simp)) ?_ ?_ list_.tail.length 0 [] (list_.length+2) (by omega) (by rw[List.length_tail];omega) rfl
 ·refine key.trans ?_
  rw[List.drop_zero,nxI,List.nil_append]
  exact Jk (K:=fun z:Rows×Int×Int×Bool=>k_ z.1 z.2.1 z.2.2.1 z.2.2.2) rfl rfl
 ·intro n i o hi ho
  have dD:i<list_.length:=by rw[List.length_tail] at hi;omega
  rw[PJ]
  have dV:∀y:List DC,oT 16 o [y]=true:=fun y=>qY (by simp only[List.length_cons,List.length_nil];omega) (by omega)
  simp only[tO,oV hi,nT hi,n_ dD hl,Int.toNat_natCast,dV,nc,cond_true]
  rfl
 ·intro n o ho
  rw[PJ]
  simp only[tO,nQ,g3,nc,cond_true,cond_false]
  generalize rN o (rI (nth list_ 0) 4) (rI (nth list_ 0) 5)=W
  unfold nbx
  cases hw:(len W) != (len list_)
  ·have hwl:W.length=list_.length:=by
    have:len W=len list_:=by simpa using hw
    simp only[len] at this
    omega
   simp only[cond_false,Bool.not_not]
   refine (vv W (fun n i=>qT jK k_ (list_.length+2) list_ o (rI (nth list_ 0) 4) (rI (nth list_ 0) 5) W (len W) n i) (fun i r c=>bif !(nvH r (nth list_ i)) then k_ [] 0 0 false else c) (k_ o (rI (nth list_ 0) 4) (rI (nth list_ 0) 5) true) ?_ ?_ (list_.length+2) (by omega)).trans ?_
   ·intro n i hi
    show qT jK k_ (list_.length+2) list_ o (rI (nth list_ 0) 4) (rI (nth list_ 0) 5) W (len W) (n+1) (i:Int)=_
    rw[PK]
    simp only[tP,oV hi,nT hi,nT (show i<list_.length by omega),n_ hi (show W.length≤9223372036854775807 by omega),Int.toNat_natCast,nc,cond_true]
    rfl
   ·intro n
    show qT jK k_ (list_.length+2) list_ o (rI (nth list_ 0) 4) (rI (nth list_ 0) 5) W (len W) (n+1) (W.length:Int)=_
    rw[PK]
    simp only[tP,nQ,cond_false]
   ·exact vb (fun i r=> !(nvH r (nth list_ i))) (k_ [] 0 0 false) (k_ o (rI (nth list_ 0) 4) (rI (nth list_ 0) 5) true) W 0
  ·rfl
def wi (k_:Bytes→Bool→α) (list_:Rows) (domain:Int) (pieces:Rows) (nZ:Int) (qi:Rows) (ov:Bytes→Int→α) (nD:Bytes) (om:Int):α:=
 let z0:Bytes×Bool:=ua list_ (⟨qi⟩:nd) domain (rI (nth pieces (Int.toNat om)) 0) (rI (nth pieces (Int.toNat om)) 1)
 let z1:Bytes:=z0.1
 bif decide (om<nZ) then
  bif DF true (idx om pieces) then
   bif !z0.2 then k_ [] false
   else bif DF true (oK nD z1) then
     ov (nD++z1) (nK (om+1))
    else jK
  else jK
 else k_ nD true
def sH (k_:Bytes→Bool→α) (N:Nat) (list_:Rows) (domain:Int) (pieces:Rows) (nZ:Int) (qi:Rows) (m_:Nat):Bytes→Int→α:=
 Nat.rec (motive:=fun _=>Bytes→Int→α) (fun _ _=>jK) (fun _ ov=>wi jK k_ list_ domain pieces nZ qi ov) m_
theorem Qq (k_:Bytes→Bool→α) (N:Nat) (list_:Rows) (domain:Int) (pieces:Rows) (nZ:Int) (qi:Rows) (m_:Nat):sH jK k_ N list_ domain pieces nZ qi (m_+1)=wi jK k_ list_ domain pieces nZ qi (sH jK k_ N list_ domain pieces nZ qi m_):=rfl
def NI {α:Type} (jK:α) (k_:Bytes→Bool→α) (l0:Int→Rows→Bytes→Int→α) (list_:Rows) (m:nd) (domain:Int) (pieces:Rows):α:=
 bif !(uM pieces) then k_ [] false
 else l0 (len pieces) m.nV [] 0
def Uh (k_:Bytes→Bool→α) (N:Nat) (list_:Rows) (m:nd) (domain:Int) (pieces:Rows):α:=NI jK k_ (fun nZ qi=>sH jK k_ N list_ domain pieces nZ qi N) list_ m domain pieces
def gpP (list_:Rows) (m:nd) (domain:Int) (e:List DC) (s:Bytes):Bool:= !(ua list_ m domain (rI e 0) (rI e 1)).2
def gpF (list_:Rows) (m:nd) (domain:Int) (e:List DC) (s:Bytes):Bytes:=s++(ua list_ m domain (rI e 0) (rI e 1)).1
def pQ (list_:Rows) (m:nd) (domain:Int) (pieces:Rows):Bytes×Bool:=bif !(uM pieces) then ([],false) else PR (gpP list_ m domain) (gpF list_ m domain) ([],false) (fun s=>(s,true)) pieces []
theorem Zf {l:Rows} {m:nd} {d:Int} {pieces:Rows} (hw:Gk (.sl [.str]) (.sl m.nV)):(pQ l m d pieces).1.length≤65536:=by
 unfold pQ
 cases hp:uM pieces
 ·exact Nat.zero_le _
 have h16:=PV hp
 simp only[Bool.not_true,cond_false]
 have key:∀(e:Rows) (s:Bytes),s.length+e.length*4096≤65536→(PR (gpP l m d) (gpF l m d) ([],false) (fun s=>(s,true)) e s).1.length≤65536:=by
  intro e
  induction e with
  | nil=>intro s hs;simp only[PR];omega
  | cons x xs ih=>
   intro s hs
   simp only[PR]
   cases gpP l m d x s
   ·refine ih _ ?_
    have:=(SW (list_:=l) (m:=m) (domain:=d) (at_:=rI x 0) (n:=rI x 1) hw).2
    simp only[gpF,List.length_append,List.length_cons] at hs ⊢
    omega
   ·exact Nat.zero_le _
 exact key pieces [] (by simp only[List.length_nil];omega)
theorem ng5 (k_:Bytes→Bool→α) (list_:Rows) (m:nd) (domain:Int) (pieces:Rows) (Vk:jI nd.ct m.enc) (vl:Gk (.sl [.i,.i]) (.sl pieces)):∃N,Uh jK k_ N list_ m domain pieces=k_ (pQ list_ m domain pieces).1 (pQ list_ m domain pieces).2:=by
 obtain⟨hl,_⟩:=oy vl
 have hW:=nd.xu Vk
 unfold Uh NI pQ
 refine⟨pieces.length+1, ?_⟩
 refine pj (K:=fun z:Bytes×Bool=>k_ z.1 z.2) (fun _=>rfl) (fun hg=> ?_)
 have h16:=PV (noZ hg)
 refine (naS pieces (fun n i (s:Bytes)=>sH jK k_ (pieces.length+1) list_ domain pieces (len pieces) m.nV n s i) (gpP list_ m domain) (gpF list_ m domain) (k_ [] false) (fun s=>k_ s true) (fun i s=>s.length≤i*4096) ?_ ?_ ?_ [] (by simp)).trans ?_
 ·intro i s hi hs _
  have:=(SW (list_:=list_) (m:=m) (domain:=domain) (at_:=rI (nth pieces i) 0) (n:=rI (nth pieces i) 1) hW).2
  unfold gpF
  rw[List.length_append]
  omega
 ·intro n i s hi hs
  have hd:=(SW (list_:=list_) (m:=m) (domain:=domain) (at_:=rI (nth pieces i) 0) (n:=rI (nth pieces i) 1) hW).2
  have hc:oK s (ua list_ m domain (rI (nth pieces i) 0) (rI (nth pieces i) 1)).1=true:=Pm (by omega)
  show sH jK k_ (pieces.length+1) list_ domain pieces (len pieces) m.nV (n+1) s (i:Int)=_
  rw[Qq]
  have JQ:(⟨m.nV⟩:nd)=m:=rfl
  simp only[wi,oV hi,nT hi,JQ,hc,n_ hi hl,Int.toNat_natCast,nc,cond_true]
  rfl
 ·intro n s hs
  show sH jK k_ (pieces.length+1) list_ domain pieces (len pieces) m.nV (n+1) s (pieces.length:Int)=_
  rw[Qq]
  simp only[wi,nQ,cond_false]
 ·exact nr8 (fun z:Bytes×Bool=>k_ z.1 z.2) (gpP list_ m domain) (gpF list_ m domain) (x:=([],false)) (fun s=>(s,true)) pieces []
def wH (k_:Bytes→Bool→α) (list_:Rows) (domain:Int) (pieces qi:Rows) (ov:Bytes→Int→α) (nD:Bytes) (k:Int):α:=
 let z0:Bytes×Bool:=ua list_ (⟨qi⟩:nd) domain (rI (nth pieces (Int.toNat k)) 0) (rI (nth pieces (Int.toNat k)) 1)
 let z1:Bytes:=z0.1
 bif decide (k<len pieces) then
  bif DF (DF true (idx k pieces)) (idx k pieces) then
   bif !z0.2 then k_ [] false
   else bif DF true (oK nD z1) then
     ov (nD++z1) (nK (k+1))
    else jK
  else jK
 else k_ nD true
def sL (k_:Bytes→Bool→α) (N:Nat) (list_:Rows) (domain:Int) (pieces qi:Rows) (m_:Nat):Bytes→Int→α:=
 Nat.rec (motive:=fun _=>Bytes→Int→α) (fun _ _=>jK) (fun _ ov=>wH jK k_ list_ domain pieces qi ov) m_
theorem Rf (k_:Bytes→Bool→α) (N:Nat) (list_:Rows) (domain:Int) (pieces qi:Rows) (m_:Nat):sL jK k_ N list_ domain pieces qi (m_+1)=wH jK k_ list_ domain pieces qi (sL jK k_ N list_ domain pieces qi m_):=rfl
def NV {α:Type} (jK:α) (k_:Bytes→Bool→α) (l0:Rows→Bytes→Int→α) (list_:Rows) (m:nd) (domain:Int) (pieces:Rows):α:=
 bif !(uM pieces) then k_ [] false
 else l0 m.nV [] 0
def UU (k_:Bytes→Bool→α) (N:Nat) (list_:Rows) (m:nd) (domain:Int) (pieces:Rows):α:=NV jK k_ (fun qi=>sL jK k_ N list_ domain pieces qi N) list_ m domain pieces
theorem nhG (k_:Bytes→Bool→α) (list_:Rows) (m:nd) (domain:Int) (pieces:Rows) (Vk:jI nd.ct m.enc) (vl:Gk (.sl [.i,.i]) (.sl pieces)):∃N,UU jK k_ N list_ m domain pieces=k_ (pQ list_ m domain pieces).1 (pQ list_ m domain pieces).2:=by
 obtain⟨hl,_⟩:=oy vl
 have hW:=nd.xu Vk
 unfold UU NV pQ
 refine⟨pieces.length+1, ?_⟩
 refine pj (K:=fun z:Bytes×Bool=>k_ z.1 z.2) (fun _=>rfl) (fun hg=> ?_)
 have h16:=PV (noZ hg)
 refine (naS pieces (fun n i (s:Bytes)=>sL jK k_ (pieces.length+1) list_ domain pieces m.nV n s i) (gpP list_ m domain) (gpF list_ m domain) (k_ [] false) (fun s=>k_ s true) (fun i s=>s.length≤i*4096) ?_ ?_ ?_ [] (by simp)).trans ?_
 ·intro i s hi hs _
  have:=(SW (list_:=list_) (m:=m) (domain:=domain) (at_:=rI (nth pieces i) 0) (n:=rI (nth pieces i) 1) hW).2
  unfold gpF
  rw[List.length_append]
  omega
 ·intro n i s hi hs
  have hd:=(SW (list_:=list_) (m:=m) (domain:=domain) (at_:=rI (nth pieces i) 0) (n:=rI (nth pieces i) 1) hW).2
  have hc:oK s (ua list_ m domain (rI (nth pieces i) 0) (rI (nth pieces i) 1)).1=true:=Pm (by omega)
  show sL jK k_ (pieces.length+1) list_ domain pieces m.nV (n+1) s (i:Int)=_
  rw[Rf]
  have JQ:(⟨m.nV⟩:nd)=m:=rfl
  simp only[wH,oV hi,nT hi,JQ,hc,n_ hi hl,Int.toNat_natCast,nc,cond_true]
  rfl
 ·intro n s hs
  show sL jK k_ (pieces.length+1) list_ domain pieces m.nV (n+1) s (pieces.length:Int)=_
  rw[Rf]
  simp only[wH,nQ,cond_false]
 ·exact nr8 (fun z:Bytes×Bool=>k_ z.1 z.2) (gpP list_ m domain) (gpF list_ m domain) (x:=([],false)) (fun s=>(s,true)) pieces []
def nch (k_:qI→Bool→α) (s:Bytes):α:=
 let z0:qI:=(⟨0,0,0,0,[]⟩:qI)
 let z1:Int:=bits .or .i64 (nei .i64 (oM s 0) 32) (q_ s 2)
 let z2:Int:=bits .or .i64 (nei .i64 (oM s 6) 32) (q_ s 8)
 let z3:qI:=(⟨z1,z2,oM s 14,oM s 16,zE s 18⟩:qI)
 let z4:qI:=(⟨z1,z2,(-1),oM s 12,zE s 14⟩:qI)
 bif decide (len s<14) then k_ z0 false
 else bif DF true (okL s 14) then
   bif bif (oM s 12)==33024 then decide (18≤len s) else false then
    bif DF true (okL s 18) then
     bif !(vP z3) then k_ z0 false
     else k_ z3 true
    else jK
   else bif !(vP z4) then k_ z0 false
   else k_ z4 true
  else jK
theorem nxT (a:Int):nei .i64 a 32=nK (a*4294967296):=rfl
theorem PD (s:Bytes) (a:Int): -1≤oM s a∧oM s a≤65535:=by
 have b0:=ry s a
 have c0:=sC s a
 have b1:=ry s (a+1)
 have c1:=sC s (a+1)
 unfold oM
 cases !(qB s a 2)<;>simp only[cond_true,cond_false]<;>omega
theorem ngV {s:Bytes} {a:Int} (h0:0≤a) (h:a+2≤len s) (hs:s.length≤9223372036854775807):0≤oM s a:=by
 have b0:=ry s a
 have b1:=ry s (a+1)
 unfold oM
 rw[(within_iff hs).2 ⟨h0,by omega,h⟩]
 simp only[Bool.not_true,cond_false]
 omega
theorem nki {s:Bytes} {a:Int} (h0:0≤a) (h:a+2≤len s) (hs:s.length≤9223372036854775807):oM s a=tK s a*256+tK s (a+1):=by
 unfold oM
 rw[(within_iff hs).2 ⟨h0,by omega,h⟩]
 rfl
theorem PE {s:Bytes} {a:Int} (h0:0≤a) (h:a+4≤len s):0≤q_ s a:=by
 have b0:=ry s a
 have b1:=ry s (a+1)
 have b2:=ry s (a+2)
 have b3:=ry s (a+3)
 unfold q_
 rw[decide_eq_false (show ¬a<0 by omega),decide_eq_false (show ¬len s<a+4 by omega)]
 simp only[cond_false]
 omega
theorem PF (s:Bytes) (a:Int): -1≤q_ s a∧q_ s a≤4294967295:=by
 have b0:=ry s a
 have c0:=sC s a
 have b1:=ry s (a+1)
 have c1:=sC s (a+1)
 have b2:=ry s (a+2)
 have c2:=sC s (a+2)
 have b3:=ry s (a+3)
 have c3:=sC s (a+3)
 unfold q_
 cases (bif decide (a<0) then true else decide (len s<a+4))<;>simp only[cond_true,cond_false]<;>omega
def Ub (s:Bytes):qI:=⟨oM s 0*4294967296+q_ s 2,oM s 6*4294967296+q_ s 8,bif (oM s 12)==33024 then oM s 14 else -1,bif (oM s 12)==33024 then oM s 16 else oM s 12,s.drop (nN s).toNat⟩
def oH (s:Bytes):qI×Bool:=bif decide (len s<18) then (⟨0,0,0,0,[]⟩,false) else bif !(vP (Ub s)) then (⟨0,0,0,0,[]⟩,false) else (Ub s,true)
theorem nrU {e:qI} (h:vP e=true):46≤e.Body.length:=(nvC h).2.2.2.2
theorem npt (k_:qI→Bool→α) (s:Bytes) (xw:Gk .str (.str s)):nch jK k_ s=k_ (oH s).1 (oH s).2:=by
 have hl:=xv xw
 unfold nch oH
 dsimp only
 by_cases h14:len s<14
 ·rw[decide_eq_true h14,decide_eq_true (show len s<18 by omega)]
  rfl
 rw[decide_eq_false h14,cond_false]
 by_cases h18:len s<18
 ·have g1:okL s 14=true:=by simp only[len] at h14;simp only[okL,Bool.and_eq_true,decide_eq_true_eq];omega
  have g3:∀e:qI,e.Body=zE s 14→vP e=false:=by
   intro e he
   cases h:vP e
   ·rfl
   ·have:=nrU h
    rw[he] at this
    simp only[zE,List.take_length,List.length_drop] at this
    simp only[len] at h18 h14
    omega
  have g4:(bif (oM s 12)==33024 then decide (18≤len s) else false)=false:=by
   rw[decide_eq_false (show ¬18≤len s by omega)]
   cases (oM s 12)==33024<;>rfl
  rw[decide_eq_true h18,g4,g1]
  simp only[nc,cond_true,cond_false]
  rw[g3 _ rfl]
  rfl
 have h18:18≤len s:=by omega
 rw[decide_eq_true h18,decide_eq_false (show ¬len s<18 by omega),cond_false]
 have g1:okL s 14=true:=by simp only[len] at h18;simp only[okL,Bool.and_eq_true,decide_eq_true_eq];omega
 have g2:okL s 18=true:=by simp only[len] at h18;simp only[okL,Bool.and_eq_true,decide_eq_true_eq];omega
 have e1:zE s 14=s.drop 14:=by simp [zE]
 have e2:zE s 18=s.drop 18:=by simp [zE]
 have r0:=PD s 0
 have r1:=PD s 6
 have p0:=ngV (s:=s) (a:=0) (by omega) (by omega) hl
 have p1:=ngV (s:=s) (a:=6) (by omega) (by omega) hl
 have q0:=PF s 2
 have q1:=PF s 8
 have t0:=PE (s:=s) (a:=2) (by omega) (by omega)
 have t1:=PE (s:=s) (a:=8) (by omega) (by omega)
 rw[nxT,nxT,nF (n:=oM s 0*4294967296) (by omega) (by omega),nF (n:=oM s 6*4294967296) (by omega) (by omega)]
 rw[nbB 32 (x:=oM s 0*4294967296) (by omega) (by omega) (by omega) (by omega) (by omega) (by omega),nbB 32 (x:=oM s 6*4294967296) (by omega) (by omega) (by omega) (by omega) (by omega) (by omega)]
 rw[show (bif (oM s 12)==33024 then true else false)=((oM s 12)==33024) by cases (oM s 12)==33024<;>rfl]
 simp only[g1,g2,e1,e2,nc,cond_true]
 unfold Ub nN
 cases (oM s 12)==33024
 ·simp only[cond_false]
  exact Jk (K:=fun z:qI×Bool=>k_ z.1 z.2) rfl rfl
 ·simp only[cond_true]
  exact Jk (K:=fun z:qI×Bool=>k_ z.1 z.2) rfl rfl
def ndK (k_:qI→Bool→α) (s:Bytes):α:=
 let z0:qI:=(⟨0,0,0,0,[]⟩:qI)
 let z1:Int:=nK ((nei .i64 (oM s 0) 32)+(q_ s 2))
 let z2:Int:=nK ((nei .i64 (oM s 6) 32)+(q_ s 8))
 let z3:qI:=(⟨z1,z2,oM s 14,oM s 16,zE s 18⟩:qI)
 let z4:qI:=(⟨z1,z2,(-1),oM s 12,zE s 14⟩:qI)
 bif decide (len s<18) then k_ z0 false
 else bif DF true (okL s 14) then
   bif (oM s 12)==33024 then
    bif DF true (okL s 18) then
     bif !(vP z3) then k_ z0 false
     else k_ z3 true
    else jK
   else bif !(vP z4) then k_ z0 false
   else k_ z4 true
  else jK
theorem nrg (k_:qI→Bool→α) (s:Bytes) (xw:Gk .str (.str s)):ndK jK k_ s=k_ (oH s).1 (oH s).2:=by
 have hl:=xv xw
 unfold ndK oH
 dsimp only
 refine pj (K:=fun z:qI×Bool=>k_ z.1 z.2) (fun _=>rfl) (fun hg=> ?_)
 have h18:18≤len s:=by
  have:=of_decide_eq_false hg
  omega
 have g1:okL s 14=true:=by simp only[len] at h18;simp only[okL,Bool.and_eq_true,decide_eq_true_eq];omega
 have g2:okL s 18=true:=by simp only[len] at h18;simp only[okL,Bool.and_eq_true,decide_eq_true_eq];omega
 have e1:zE s 14=s.drop 14:=by simp [zE]
 have e2:zE s 18=s.drop 18:=by simp [zE]
 have r0:=PD s 0
 have r1:=PD s 6
 have p0:=ngV (s:=s) (a:=0) (by omega) (by omega) hl
 have p1:=ngV (s:=s) (a:=6) (by omega) (by omega) hl
 have q0:=PF s 2
 have q1:=PF s 8
 have t0:=PE (s:=s) (a:=2) (by omega) (by omega)
 have t1:=PE (s:=s) (a:=8) (by omega) (by omega)
 rw[nxT,nxT,nF (n:=oM s 0*4294967296) (by omega) (by omega),nF (n:=oM s 6*4294967296) (by omega) (by omega)]
 rw[nF (n:=oM s 0*4294967296+q_ s 2) (by omega) (by omega),nF (n:=oM s 6*4294967296+q_ s 8) (by omega) (by omega)]
 simp only[g1,g2,e1,e2,nc,cond_true]
 unfold Ub nN
 cases (oM s 12)==33024
 ·simp only[cond_false]
  exact Jk (K:=fun z:qI×Bool=>k_ z.1 z.2) rfl rfl
 ·simp only[cond_true]
  exact Jk (K:=fun z:qI×Bool=>k_ z.1 z.2) rfl rfl
def neN (k_:wV→Bool→α) (s:Bytes):α:=
 let z0:wV:=(⟨0,0,0,0,0,0,[]⟩:wV)
 let z1:wV:=(⟨nK (tK s 1),oM s 4,nK (tK s 8),nK (tK s 9),q_ s 12,q_ s 16,uP s 20 (oM s 2)⟩:wV)
 let z2:Bytes×Bool:=Ov z1
 let z3:Bool:= !z2.2
 bif bif decide (len s<20) then true else bif decide (oM s 2<20) then true else decide (len s<oM s 2) then k_ z0 false
 else bif DF (DF (DF (DF true (idx 1 s)) (idx 8 s)) (idx 9 s)) (QY s 20 (oM s 2)) then
   bif KW z3 true (DF true (okH s (oM s 2))) then
    bif bif z3 then true else !(z2.1==(Rv s (oM s 2))) then k_ z0 false
    else k_ z1 true
   else jK
  else jK
def nzU (s:Bytes):wV:=⟨nK (tK s 1),oM s 4,nK (tK s 8),nK (tK s 9),q_ s 12,q_ s 16,uP s 20 (oM s 2)⟩
def sr (s:Bytes):wV×Bool:=bif bif decide (len s<20) then true else bif decide (oM s 2<20) then true else decide (len s<oM s 2) then (⟨0,0,0,0,0,0,[]⟩,false)
 else bif bif !(Ov (nzU s)).2 then true else !((Ov (nzU s)).1==(Rv s (oM s 2))) then (⟨0,0,0,0,0,0,[]⟩,false) else (nzU s,true)
theorem neM (k_:wV→Bool→α) (s:Bytes) (xw:Gk .str (.str s)):neN jK k_ s=k_ (sr s).1 (sr s).2:=by
 have hl:=xv xw
 unfold neN sr
 dsimp only
 refine pj (K:=fun z:wV×Bool=>k_ z.1 z.2) (fun _=>rfl) (fun hg=> ?_)
 have hh:20≤len s∧20≤oM s 2∧oM s 2≤len s:=by
  by_cases h1:len s<20
  ·rw[decide_eq_true h1] at hg;cases hg
  by_cases h2:oM s 2<20
  ·rw[decide_eq_false h1,decide_eq_true h2] at hg;cases hg
  by_cases h3:len s<oM s 2
  ·rw[decide_eq_false h1,decide_eq_false h2,decide_eq_true h3] at hg;cases hg
  omega
 obtain⟨h1,h2,h3⟩:=hh
 have db:∀j:Int,0≤j→j<20→idx j s=true:=by
  intro j i1 i2
  simp only[len] at h1
  simp only[idx,Bool.and_eq_true,decide_eq_true_eq]
  omega
 have g1:QY s 20 (oM s 2)=true:=by simp only[len] at h3;simp only[QY,Bool.and_eq_true,decide_eq_true_eq];omega
 have g2:okH s (oM s 2)=true:=by simp only[len] at h3;simp only[okH,Bool.and_eq_true,decide_eq_true_eq];omega
 refine pn (by rw[db 1 (by omega) (by omega),db 8 (by omega) (by omega),db 9 (by omega) (by omega),g1];rfl) ?_
 refine pn (naT (fun _=>rfl) (fun _=>tJ g2)) ?_
 exact Jk (K:=fun z:wV×Bool=>k_ z.1 z.2) rfl rfl
def Ul (k_:nz→Bool→α) (src dst kind:Int) (s:Bytes):α:=
 let z0:nz:=(⟨kind,oM s 0,oM s 2,q_ s 4,q_ s 8,nK (tK s 13),oM s 14,zE s 20⟩:nz)
 let z1:Bytes×Bool:=rm src dst z0
 let z2:nz:=(⟨0,0,0,0,0,0,0,[]⟩:nz)
 let z3:nz:=(⟨kind,oM s 0,oM s 2,0,0,0,0,zE s 8⟩:nz)
 let z4:Bytes×Bool:=rm src dst z3
 bif bif kind==6 then decide (20≤len s) else false then
  bif DF true (idx 13 s) then
   bif DF true (okL s 20) then
    bif bif !z1.2 then true else !(z1.1==s) then k_ z2 false
    else k_ z0 true
   else jK
  else jK
 else bif bif kind==17 then decide (8≤len s) else false then
  bif DF true (okL s 8) then
   bif bif !z4.2 then true else !(z4.1==s) then k_ z2 false
   else k_ z3 true
  else jK
 else k_ z2 false
def nAi (kind:Int) (s:Bytes):nz:=⟨kind,oM s 0,oM s 2,q_ s 4,q_ s 8,nK (tK s 13),oM s 14,zE s 20⟩
def nAj (kind:Int) (s:Bytes):nz:=⟨kind,oM s 0,oM s 2,0,0,0,0,zE s 8⟩
def nyP (src dst:Int) (s:Bytes) (q:nz):nz×Bool:=bif bif !(rm src dst q).2 then true else !((rm src dst q).1==s) then (⟨0,0,0,0,0,0,0,[]⟩,false) else (q,true)
def xy (src dst kind:Int) (s:Bytes):nz×Bool:=bif bif kind==6 then decide (20≤len s) else false then nyP src dst s (nAi kind s)
 else bif bif kind==17 then decide (8≤len s) else false then nyP src dst s (nAj kind s) else (⟨0,0,0,0,0,0,0,[]⟩,false)
theorem Uk (k_:nz→Bool→α) (src dst kind:Int) (s:Bytes) (xw:Gk .str (.str s)):Ul jK k_ src dst kind s=k_ (xy src dst kind s).1 (xy src dst kind s).2:=by
 have hl:=xv xw
 unfold Ul xy
 dsimp only
 refine pj (K:=fun z:nz×Bool=>k_ z.1 z.2) (fun hg=> ?_) (fun _=> ?_)
 ·have h20:20≤len s:=by
   revert hg
   cases kind==6
   ·intro h;cases h
   ·exact of_decide_eq_true
  have g1:idx 13 s=true:=by simp only[len] at h20;simp only[idx,Bool.and_eq_true,decide_eq_true_eq];omega
  have g2:okL s 20=true:=by simp only[len] at h20;simp only[okL,Bool.and_eq_true,decide_eq_true_eq];omega
  refine pn (tJ g1) (pn (tJ g2) ?_)
  exact Jk (K:=fun z:nz×Bool=>k_ z.1 z.2) rfl rfl
 ·refine pj (K:=fun z:nz×Bool=>k_ z.1 z.2) (fun hg=> ?_) (fun _=>rfl)
  have h8:8≤len s:=by
   revert hg
   cases kind==17
   ·intro h;cases h
   ·exact of_decide_eq_true
  have g2:okL s 8=true:=by simp only[len] at h8;simp only[okL,Bool.and_eq_true,decide_eq_true_eq];omega
  refine pn (tJ g2) ?_
  exact Jk (K:=fun z:nz×Bool=>k_ z.1 z.2) rfl rfl
def RO {α:Type} (k_:nk→Int→α) (s:Bytes):α:=
 let z0:nk:=(⟨0,0,0,0,0,0,0,0,(⟨0,0,0,0,0,0,0,[]⟩:nz)⟩:nk)
 let z1:nz×Bool:=xy (((sr (((oH s).1).Body)).1).Src) (((sr (((oH s).1).Body)).1).Ua) (((sr (((oH s).1).Body)).1).noL) (((sr (((oH s).1).Body)).1).Body)
 let z2:nk:=(⟨((oH s).1).Ua,((oH s).1).Src,((oH s).1).sO,((sr (((oH s).1).Body)).1).Tos,((sr (((oH s).1).Body)).1).Id,((sr (((oH s).1).Body)).1).Ttl,((sr (((oH s).1).Body)).1).Src,((sr (((oH s).1).Body)).1).Ua,z1.1⟩:nk)
 bif bif !((oH s).2) then true else (((oH s).1).zh) != 2048 then k_ z0 2
 else bif !((sr (((oH s).1).Body)).2) then k_ z0 3
 else bif !z1.2 then k_ z0 4
 else bif !(rA z2) then k_ z0 5
 else k_ z2 0
def pG (s:Bytes):nk×Int:=RO (fun r0 r1=>(r0,r1)) s
theorem Zo {α:Type} (k_:nk→Int→α) (s:Bytes):RO k_ s=k_ (pG s).1 (pG s).2:=by
 exact Jk (K:=fun r:nk×Int=>k_ r.1 r.2) rfl (Jk (K:=fun r:nk×Int=>k_ r.1 r.2) rfl (Jk (K:=fun r:nk×Int=>k_ r.1 r.2) rfl (Jk (K:=fun r:nk×Int=>k_ r.1 r.2) rfl rfl)))
def ne1 (k_:Bytes→α) (s:Bytes):α:=
 let z0:Bytes:=toStr ([[.int (IntKind.wrap .u8 (neo s))],[.int (IntKind.wrap .u8 (So .i64 (neo s) 8))],[.int (IntKind.wrap .u8 (So .i64 (neo s) 16))],[.int (IntKind.wrap .u8 (So .i64 (neo s) 24))]])
 bif DF true (oK s z0) then
  k_ (s++z0)
 else jK
def nkn (s:Bytes):Bytes:=s++toStr ([[.int (IntKind.wrap .u8 (neo s))],[.int (IntKind.wrap .u8 (So .i64 (neo s) 8))],[.int (IntKind.wrap .u8 (So .i64 (neo s) 16))],[.int (IntKind.wrap .u8 (So .i64 (neo s) 24))]])
theorem ne0 (k_:Bytes→α) (s:Bytes) (aF:ss s=true):ne1 jK k_ s=k_ (nkn s):=by
 have hs:s.length≤4294967296:=of_decide_eq_true aF
 unfold ne1
 exact pn (tJ (Pm (by rw[qZ];simp only[List.length_cons,List.length_nil];omega))) rfl
def Xm (k_:Bytes→Bool→α) (p:nk):α:=
 bif !(Ve p) then k_ [] false
 else bif !((nU p).2) then k_ [] false
 else bif DF true (ss ((nU p).1)) then
   k_ (nkn ((nU p).1)) true
  else jK
def r_ (p:nk):Bytes×Bool:=bif !(Ve p) then ([],false) else (nkn (nU p).1,true)
theorem nvQ {p:nk} (h:Ve p=true):rA p=true:=by
 unfold Ve Tz at h
 revert h
 cases rA p<;>simp
theorem nkr (k_:Bytes→Bool→α) (p:nk):Xm jK k_ p=k_ (r_ p).1 (r_ p).2:=by
 have hb:=ze p
 have hs:ss (nU p).1=true:=decide_eq_true (by omega)
 unfold Xm r_
 refine pj (K:=fun z:Bytes×Bool=>k_ z.1 z.2) (fun _=>rfl) (fun hg=> ?_)
 rw[noz,nvQ (noZ hg)]
 simp only[Bool.not_true,cond_false]
 exact pn (tJ hs) rfl
def Yr (k_:Bytes→Bool→α) (p:nk):α:=
 bif !(Ve p) then k_ [] false
 else bif DF true (ss ((nU p).1)) then
   k_ (nkn ((nU p).1)) true
  else jK
theorem nl8 (k_:Bytes→Bool→α) (p:nk):Yr jK k_ p=k_ (r_ p).1 (r_ p).2:=by
 have hb:=ze p
 have hs:ss (nU p).1=true:=decide_eq_true (by omega)
 unfold Yr r_
 refine pj (K:=fun z:Bytes×Bool=>k_ z.1 z.2) (fun _=>rfl) (fun hg=> ?_)
 exact pn (tJ hs) rfl
def zN (k_:Rows→α) (list_:Rows) (nZ:Int) (ov:Int→Rows→α) (om:Int) (nD:Rows):α:=
 bif decide (om<nZ) then
  bif DF true (idx om list_) then
   bif (r_ (nk.na (nth list_ (Int.toNat om)) 0)).2 then
    bif DF true (oT 16 nD ([[.str ((r_ (nk.na (nth list_ (Int.toNat om)) 0)).1)]])) then
     ov (nK (om+1)) (nD++([[.str ((r_ (nk.na (nth list_ (Int.toNat om)) 0)).1)]]))
    else jK
   else ov (nK (om+1)) nD
  else jK
 else k_ nD
def vc (k_:Rows→α) (N:Nat) (list_:Rows) (nZ:Int) (m_:Nat):Int→Rows→α:=
 Nat.rec (motive:=fun _=>Int→Rows→α) (fun _ _=>jK) (fun _ ov=>zN jK k_ list_ nZ ov) m_
theorem Vs (k_:Rows→α) (N:Nat) (list_:Rows) (nZ:Int) (m_:Nat):vc jK k_ N list_ nZ (m_+1)=zN jK k_ list_ nZ (vc jK k_ N list_ nZ m_):=rfl
def Oy {α:Type} (jK:α) (k_:Rows→α) (l0:Int→Int→Rows→α) (list_:Rows):α:=
 l0 (len list_) 0 []
def nb6 (k_:Rows→α) (N:Nat) (list_:Rows):α:=Oy jK k_ (fun nZ=>vc jK k_ N list_ nZ N) list_
def faF (l:Rows) (i:Nat) (o:Rows):Rows:=bif (r_ (nk.na (nth l i) 0)).2 then o++[[.str (r_ (nk.na (nth l i) 0)).1]] else o
def nwh (l:Rows):Bool:=decide (l.length≤1000)
def nep (l:Rows):Rows:=itN (faF l) l.length 0 []
theorem nxH (l:Rows):∀(m i:Nat) (o:Rows),(itN (faF l) m i o).length≤o.length+m
 | 0,_,_=>Nat.le_refl _
 | m+1,i,o=>by
  have:=nxH l m (i+1) (faF l i o)
  have h2:(faF l i o).length≤o.length+1:=by
   unfold faF
   cases (r_ (nk.na (nth l i) 0)).2
   ·simp only[cond_false];omega
   ·simp only[cond_true,List.length_append,List.length_cons,List.length_nil];omega
  simp only[itN]
  omega
theorem nb5 (k_:Rows→α) (list_:Rows) (pg:Gk (.sl [.i,.i,.i,.i,.i,.i,.i,.i,.i,.i,.i,.i,.i,.i,.i,.str]) (.sl list_)) (aF:nwh list_=true):∃N,nb6 jK k_ N list_=k_ (nep list_):=by
 obtain⟨hl,_⟩:=oy pg
 have hs:list_.length≤1000:=of_decide_eq_true aF
 refine⟨list_.length+1, ?_⟩
 unfold nb6 Oy nep
 refine (yq list_.length (fun n i o=>vc jK k_ (list_.length+1) list_ (len list_) n i o) (faF list_) k_ (fun i o=>o.length≤i) ?_ ?_ ?_ (list_.length+1) [] (Nat.zero_le _) (by omega))
 ·intro i o hi ho
  unfold faF
  cases (r_ (nk.na (nth list_ i) 0)).2
  ·simp only[cond_false];omega
  ·simp only[cond_true,List.length_append,List.length_cons,List.length_nil];omega
 ·intro n i o hi ho
  show vc jK k_ (list_.length+1) list_ (len list_) (n+1) (i:Int) o=_
  rw[Vs]
  have dV:∀y:List DC,oT 16 o [y]=true:=fun y=>qY (by simp only[List.length_cons,List.length_nil];omega) (by omega)
  simp only[zN,oV hi,nT hi,n_ hi hl,dV,Int.toNat_natCast,nc,cond_true]
  unfold faF
  cases (r_ (nk.na (nth list_ i) 0)).2<;>rfl
 ·intro n o ho
  show vc jK k_ (list_.length+1) list_ (len list_) (n+1) (list_.length:Int) o=_
  rw[Vs]
  simp only[zN,nQ,cond_false]
def SF (k_:Rows→α) (size:Int) (body:Bytes) (p_1 p_2 PT RD p_5 p_6 p_7 p_8 p_9 NP NQ NR NS NT NU:Int) (ov:Int→Rows→α) (k:Int) (nD:Rows):α:=
 let z0:Int:=nK ((nK (k+1))*size)
 bif decide (nK (k*size)<len body) then
  bif decide (z0<len body) then
   bif DF true (QY body (nK (k*size)) z0) then
    bif DF true (oT 136 nD ([[.int p_1,.int p_2,.int PT,.int RD,.int (Int.tmod (nK (p_5+k)) 65536),.int p_6,.int p_7,.int p_8,.int p_9,.int NP,.int NQ,.int (Int.tmod (nK (NR+(nK (k*size)))) 4294967296),.int NS,.int (bits .andNot .i64 NT 9),.int NU,.str (uP body (nK (k*size)) z0)]])) then
     ov (nK (k+1)) (nD++([[.int p_1,.int p_2,.int PT,.int RD,.int (Int.tmod (nK (p_5+k)) 65536),.int p_6,.int p_7,.int p_8,.int p_9,.int NP,.int NQ,.int (Int.tmod (nK (NR+(nK (k*size)))) 4294967296),.int NS,.int (bits .andNot .i64 NT 9),.int NU,.str (uP body (nK (k*size)) z0)]]))
    else jK
   else jK
  else bif DF true (QY body (nK (k*size)) (len body)) then
    bif DF true (oT 136 nD ([[.int p_1,.int p_2,.int PT,.int RD,.int (Int.tmod (nK (p_5+k)) 65536),.int p_6,.int p_7,.int p_8,.int p_9,.int NP,.int NQ,.int (Int.tmod (nK (NR+(nK (k*size)))) 4294967296),.int NS,.int NT,.int NU,.str (uP body (nK (k*size)) (len body))]])) then
     ov (nK (k+1)) (nD++([[.int p_1,.int p_2,.int PT,.int RD,.int (Int.tmod (nK (p_5+k)) 65536),.int p_6,.int p_7,.int p_8,.int p_9,.int NP,.int NQ,.int (Int.tmod (nK (NR+(nK (k*size)))) 4294967296),.int NS,.int NT,.int NU,.str (uP body (nK (k*size)) (len body))]]))
    else jK
   else jK
 else k_ nD
def SE (k_:Rows→α) (N:Nat) (size:Int) (body:Bytes) (p_1 p_2 PT RD p_5 p_6 p_7 p_8 p_9 NP NQ NR NS NT NU:Int) (m_:Nat):Int→Rows→α:=
 Nat.rec (motive:=fun _=>Int→Rows→α) (fun _ _=>jK) (fun _ ov=>SF jK k_ size body p_1 p_2 PT RD p_5 p_6 p_7 p_8 p_9 NP NQ NR NS NT NU ov) m_
theorem ncr (k_:Rows→α) (N:Nat) (size:Int) (body:Bytes) (p_1 p_2 PT RD p_5 p_6 p_7 p_8 p_9 NP NQ NR NS NT NU:Int) (m_:Nat):SE jK k_ N size body p_1 p_2 PT RD p_5 p_6 p_7 p_8 p_9 NP NQ NR NS NT NU (m_+1)=SF jK k_ size body p_1 p_2 PT RD p_5 p_6 p_7 p_8 p_9 NP NQ NR NS NT NU (SE jK k_ N size body p_1 p_2 PT RD p_5 p_6 p_7 p_8 p_9 NP NQ NR NS NT NU m_):=rfl
def nbs {α:Type} (jK:α) (k_:Rows→α) (l0:Bytes→Int→Int→Int→Int→Int→Int→Int→Int→Int→Int→Int→Int→Int→Int→Int→Int→Rows→α) (p:nk) (size:Int):α:=
 bif bif !(rA p) then true else !(nf size 1 128) then k_ []
 else bif bif p.rZ.Kind != 6 then true else decide (len p.rZ.Body≤size) then k_ [nk.enc p]
 else l0 p.rZ.Body p.xe p.xf p.sO p.Tos p.Id p.Ttl p.qC p.rl p.rZ.Kind p.rZ.oX p.rZ.oW p.rZ.Seq p.rZ.Ack p.rZ.Flags p.rZ.uE 0 []
def nkJ (k_:Rows→α) (N:Nat) (p:nk) (size:Int):α:=nbs jK k_ (fun body p_1 p_2 PT RD p_5 p_6 p_7 p_8 p_9 NP NQ NR NS NT NU=>SE jK k_ N size body p_1 p_2 PT RD p_5 p_6 p_7 p_8 p_9 NP NQ NR NS NT NU N) p size
theorem nue {p:nk} (h:rA p=true):p.rZ.Body.length≤320:=by
 have hs:sd p.rZ=true:=by
  unfold rA zo at h
  revert h
  cases nf p.xe 0 281474976710655<;>cases nf p.xf 0 281474976710655<;>cases nf p.sO (-1) 4095<;>cases nf p.Tos 0 255<;>cases nf p.Ttl 0 255<;>cases nf p.Id 0 65535<;>cases nf p.qC 0 4294967295<;>cases nf p.rl 0 4294967295<;>cases sd p.rZ<;>simp
 exact nwk hs
def nwt (p:nk) (size:Int) (k:Nat):Bytes:=uP p.rZ.Body ((k:Int)*size) (ue (len p.rZ.Body) (((k:Int)+1)*size))
def noy (p:nk) (size:Int) (k:Nat):List DC:=[.int p.xe,.int p.xf,.int p.sO,.int p.Tos,.int (Int.tmod (nK (p.Id+(k:Int))) 65536),.int p.Ttl,.int p.qC,.int p.rl,.int p.rZ.Kind,.int p.rZ.oX,.int p.rZ.oW,.int (Int.tmod (nK (p.rZ.Seq+(k:Int)*size)) 4294967296),.int p.rZ.Ack,.int (bif decide (((k:Int)+1)*size<len p.rZ.Body) then bits .andNot .i64 p.rZ.Flags 9 else p.rZ.Flags),.int p.rZ.uE,.str (nwt p size k)]
def niV (p:nk) (size:Int):Nat→Nat→Rows→Rows
 | 0,_,o=>o
 | m+1,k,o=>bif decide ((k:Int)*size<len p.rZ.Body) then niV p size m (k+1) (o++[noy p size k]) else o
def Split (p:nk) (size:Int):Rows:=bif bif !(rA p) then true else !(nf size 1 128) then [] else bif bif p.rZ.Kind != 6 then true else decide (len p.rZ.Body≤size) then [nk.enc p] else niV p size 330 0 []
theorem nvI (p:nk) (size:Int):∀(m k:Nat) (o:Rows),(niV p size m k o).length≤o.length+m
 | 0,_,_=>Nat.le_refl _
 | m+1,k,o=>by
  unfold niV
  have:=nvI p size m (k+1) (o++[noy p size k])
  simp only[List.length_append,List.length_cons,List.length_nil] at this
  cases decide ((k:Int)*size<len p.rZ.Body)
  ·simp only[cond_false];omega
  ·simp only[cond_true];omega
theorem nvv (p:nk) (size:Int):(Split p size).length≤330:=by
 unfold Split
 have:=nvI p size 330 0 []
 simp only[List.length_nil] at this
 cases (bif !(rA p) then true else !(nf size 1 128))
 ·cases (bif p.rZ.Kind != 6 then true else decide (len p.rZ.Body≤size))
  ·simp only[cond_false];omega
  ·simp
 ·simp
theorem nv5 (k_:Rows→α) (p:nk) (size:Int):∃N,nkJ jK k_ N p size=k_ (Split p size):=by
 unfold nkJ nbs Split
 refine⟨400, ?_⟩
 refine pj (fun _=>rfl) (fun hg=> ?_)
 refine pj (fun _=>rfl) (fun _=> ?_)
 have hS:rA p=true:=by
  revert hg
  cases rA p<;>simp
 have hZ:nf size 1 128=true:=by
  revert hg
  rw[hS]
  cases nf size 1 128<;>simp
 have hz:=n0.1 hZ
 have hb:=nue hS
 have key:∀(m i:Nat) (o:Rows) (N:Nat),i+m=330→m<N→o.length≤i→
   SE jK k_ 400 size p.rZ.Body p.xe p.xf p.sO p.Tos p.Id p.Ttl p.qC p.rl p.rZ.Kind p.rZ.oX p.rZ.oW p.rZ.Seq p.rZ.Ack p.rZ.Flags p.rZ.uE N (i:Int) o=k_ (niV p size m i o):=by
  intro m
  induction m with
  | zero=>
   intro i o N h1 h2 h3
   obtain⟨N,rfl⟩:∃q,N=q+1:=⟨N - 1,by omega⟩
   have hi:(i:Int)=330:=by omega
   rw[hi,ncr]
   have w1:nK (330*size)=330*size:=nF (by omega) (by omega)
   have hf:decide (330*size<len p.rZ.Body)=false:=decide_eq_false (by simp only[len];omega)
   simp only[SF,w1,hf,cond_false,niV]
  | succ m ih=>
   intro i o N h1 h2 h3
   obtain⟨N,rfl⟩:∃q,N=q+1:=⟨N - 1,by omega⟩
   rw[ncr]
   have hX0:0≤(i:Int)*size:=Int.mul_nonneg (by omega) (by omega)
   have hX1:(i:Int)*size≤330*128:=Int.mul_le_mul (by omega) (by omega) (by omega) (by omega)
   have hY:((i:Int)+1)*size=(i:Int)*size+size:=by rw[Int.add_mul,Int.one_mul]
   have w1:nK ((i:Int)*size)=(i:Int)*size:=nF (by omega) (by omega)
   have w2:nK ((i:Int)+1)=(i:Int)+1:=nF (by omega) (by omega)
   have w3:nK (((i:Int)+1)*size)=((i:Int)+1)*size:=nF (by omega) (by omega)
   have dV:∀y:List DC,oT 136 o [y]=true:=fun y=>qY (by simp only[List.length_cons,List.length_nil];omega) (by omega)
   have this:=ih (i+1) (o++[noy p size i]) N (by omega) (by omega) (by simp only[List.length_append,List.length_cons,List.length_nil];omega)
   have hc:((i+1:Nat):Int)=(i:Int)+1:=by omega
   rw[hc] at this
   simp only[SF,niV,w1,w2,w3,dV,nc,cond_true]
   refine pj (fun cd=> ?_) (fun _=>rfl)
   have cd:=of_decide_eq_true cd
   rw[←this]
   unfold noy nwt
   cases hd:decide (((i:Int)+1)*size<len p.rZ.Body)
   ·have HP:=of_decide_eq_false hd
    have hm:ue (len p.rZ.Body) (((i:Int)+1)*size)=len p.rZ.Body:=by unfold ue;rw[if_neg HP]
    have g:QY p.rZ.Body ((i:Int)*size) (len p.rZ.Body)=true:=by
     simp only[len] at cd
     simp only[QY,len,Bool.and_eq_true,decide_eq_true_eq]
     exact⟨⟨hX0,decide_eq_true (Int.le_of_lt cd)⟩,decide_eq_true (Int.le_refl _)⟩
    simp only[hm,g,nc,cond_true,cond_false]
   ·have HP:=of_decide_eq_true hd
    have hm:ue (len p.rZ.Body) (((i:Int)+1)*size)=((i:Int)+1)*size:=by unfold ue;rw[if_pos HP]
    have g:QY p.rZ.Body ((i:Int)*size) (((i:Int)+1)*size)=true:=by
     simp only[len] at cd HP
     simp only[QY,Bool.and_eq_true,decide_eq_true_eq]
     omega
    simp only[hm,g,nc,cond_true]
 exact key 330 0 [] 400 (by omega) (by omega) (Nat.zero_le _)
def SU (k_:Rows→α) (size n p_1 p_2 PT RD p_5 p_6 p_7 p_8 p_9 NP NQ NR NS NT NU:Int) (nbC:Bytes) (ov:Int→Rows→α) (k:Int) (nD:Rows):α:=
 let z0:Int:=nK ((nK (k+1))*size)
 bif decide (nK (k*size)<n) then
  bif DF true (QY nbC (nK (k*size)) (ue n z0)) then
   bif decide (z0<n) then
    bif DF true (oT 136 nD ([[.int p_1,.int p_2,.int PT,.int RD,.int (Int.tmod (nK (p_5+k)) 65536),.int p_6,.int p_7,.int p_8,.int p_9,.int NP,.int NQ,.int (Int.tmod (nK (NR+(nK (k*size)))) 4294967296),.int NS,.int (bits .andNot .i64 NT 9),.int NU,.str (uP nbC (nK (k*size)) (ue n z0))]])) then
     ov (nK (k+1)) (nD++([[.int p_1,.int p_2,.int PT,.int RD,.int (Int.tmod (nK (p_5+k)) 65536),.int p_6,.int p_7,.int p_8,.int p_9,.int NP,.int NQ,.int (Int.tmod (nK (NR+(nK (k*size)))) 4294967296),.int NS,.int (bits .andNot .i64 NT 9),.int NU,.str (uP nbC (nK (k*size)) (ue n z0))]]))
    else jK
   else bif DF true (oT 136 nD ([[.int p_1,.int p_2,.int PT,.int RD,.int (Int.tmod (nK (p_5+k)) 65536),.int p_6,.int p_7,.int p_8,.int p_9,.int NP,.int NQ,.int (Int.tmod (nK (NR+(nK (k*size)))) 4294967296),.int NS,.int NT,.int NU,.str (uP nbC (nK (k*size)) (ue n z0))]])) then
     ov (nK (k+1)) (nD++([[.int p_1,.int p_2,.int PT,.int RD,.int (Int.tmod (nK (p_5+k)) 65536),.int p_6,.int p_7,.int p_8,.int p_9,.int NP,.int NQ,.int (Int.tmod (nK (NR+(nK (k*size)))) 4294967296),.int NS,.int NT,.int NU,.str (uP nbC (nK (k*size)) (ue n z0))]]))
    else jK
  else jK
 else k_ nD
def SS (k_:Rows→α) (N:Nat) (size n p_1 p_2 PT RD p_5 p_6 p_7 p_8 p_9 NP NQ NR NS NT NU:Int) (nbC:Bytes) (m_:Nat):Int→Rows→α:=
 Nat.rec (motive:=fun _=>Int→Rows→α) (fun _ _=>jK) (fun _ ov=>SU jK k_ size n p_1 p_2 PT RD p_5 p_6 p_7 p_8 p_9 NP NQ NR NS NT NU nbC ov) m_
theorem ndS (k_:Rows→α) (N:Nat) (size n p_1 p_2 PT RD p_5 p_6 p_7 p_8 p_9 NP NQ NR NS NT NU:Int) (nbC:Bytes) (m_:Nat):SS jK k_ N size n p_1 p_2 PT RD p_5 p_6 p_7 p_8 p_9 NP NQ NR NS NT NU nbC (m_+1)=SU jK k_ size n p_1 p_2 PT RD p_5 p_6 p_7 p_8 p_9 NP NQ NR NS NT NU nbC (SS jK k_ N size n p_1 p_2 PT RD p_5 p_6 p_7 p_8 p_9 NP NQ NR NS NT NU nbC m_):=rfl
def nbM {α:Type} (jK:α) (k_:Rows→α) (l0:Int→Int→Int→Int→Int→Int→Int→Int→Int→Int→Int→Int→Int→Int→Int→Int→Bytes→Int→Rows→α) (p:nk) (size:Int):α:=
 bif bif !(rA p) then true else !(nf size 1 128) then k_ []
 else bif bif p.rZ.Kind != 6 then true else decide (len p.rZ.Body≤size) then k_ [nk.enc p]
 else l0 (len p.rZ.Body) p.xe p.xf p.sO p.Tos p.Id p.Ttl p.qC p.rl p.rZ.Kind p.rZ.oX p.rZ.oW p.rZ.Seq p.rZ.Ack p.rZ.Flags p.rZ.uE p.rZ.Body 0 []
def nmo (k_:Rows→α) (N:Nat) (p:nk) (size:Int):α:=nbM jK k_ (fun n p_1 p_2 PT RD p_5 p_6 p_7 p_8 p_9 NP NQ NR NS NT NU nbC=>SS jK k_ N size n p_1 p_2 PT RD p_5 p_6 p_7 p_8 p_9 NP NQ NR NS NT NU nbC N) p size
theorem nwp (k_:Rows→α) (p:nk) (size:Int):∃N,nmo jK k_ N p size=k_ (Split p size):=by
 unfold nmo nbM Split
 refine⟨400, ?_⟩
 refine pj (fun _=>rfl) (fun hg=> ?_)
 refine pj (fun _=>rfl) (fun _=> ?_)
 have hS:rA p=true:=by
  revert hg
  cases rA p<;>simp
 have hZ:nf size 1 128=true:=by
  revert hg
  rw[hS]
  cases nf size 1 128<;>simp
 have hz:=n0.1 hZ
 have hb:=nue hS
 have key:∀(m i:Nat) (o:Rows) (N:Nat),i+m=330→m<N→o.length≤i→
   SS jK k_ 400 size (len p.rZ.Body) p.xe p.xf p.sO p.Tos p.Id p.Ttl p.qC p.rl p.rZ.Kind p.rZ.oX p.rZ.oW p.rZ.Seq p.rZ.Ack p.rZ.Flags p.rZ.uE p.rZ.Body N (i:Int) o=k_ (niV p size m i o):=by
  intro m
  induction m with
  | zero=>
   intro i o N h1 h2 h3
   obtain⟨N,rfl⟩:∃q,N=q+1:=⟨N - 1,by omega⟩
   have hi:(i:Int)=330:=by omega
   rw[hi,ndS]
   have w1:nK (330*size)=330*size:=nF (by omega) (by omega)
   have hf:decide (330*size<len p.rZ.Body)=false:=decide_eq_false (by simp only[len];omega)
   simp only[SU,w1,hf,cond_false,niV]
  | succ m ih=>
   intro i o N h1 h2 h3
   obtain⟨N,rfl⟩:∃q,N=q+1:=⟨N - 1,by omega⟩
   rw[ndS]
   have hX0:0≤(i:Int)*size:=Int.mul_nonneg (by omega) (by omega)
   have hX1:(i:Int)*size≤330*128:=Int.mul_le_mul (by omega) (by omega) (by omega) (by omega)
   have hY:((i:Int)+1)*size=(i:Int)*size+size:=by rw[Int.add_mul,Int.one_mul]
   have w1:nK ((i:Int)*size)=(i:Int)*size:=nF (by omega) (by omega)
   have w2:nK ((i:Int)+1)=(i:Int)+1:=nF (by omega) (by omega)
   have w3:nK (((i:Int)+1)*size)=((i:Int)+1)*size:=nF (by omega) (by omega)
   have dV:∀y:List DC,oT 136 o [y]=true:=fun y=>qY (by simp only[List.length_cons,List.length_nil];omega) (by omega)
   have this:=ih (i+1) (o++[noy p size i]) N (by omega) (by omega) (by simp only[List.length_append,List.length_cons,List.length_nil];omega)
   have hc:((i+1:Nat):Int)=(i:Int)+1:=by omega
   rw[hc] at this
   simp only[SU,niV,w1,w2,w3,dV,nc,cond_true]
   refine pj (fun cd=> ?_) (fun _=>rfl)
   have cd:=of_decide_eq_true cd
   rw[←this]
   unfold noy nwt
   cases hd:decide (((i:Int)+1)*size<len p.rZ.Body)
   ·have HP:=of_decide_eq_false hd
    have hm:ue (len p.rZ.Body) (((i:Int)+1)*size)=len p.rZ.Body:=by unfold ue;rw[if_neg HP]
    have g:QY p.rZ.Body ((i:Int)*size) (len p.rZ.Body)=true:=by
     simp only[len] at cd
     simp only[QY,len,Bool.and_eq_true,decide_eq_true_eq]
     exact⟨⟨hX0,decide_eq_true (Int.le_of_lt cd)⟩,decide_eq_true (Int.le_refl _)⟩
    simp only[hm,g,nc,cond_true,cond_false]
   ·have HP:=of_decide_eq_true hd
    have hm:ue (len p.rZ.Body) (((i:Int)+1)*size)=((i:Int)+1)*size:=by unfold ue;rw[if_pos HP]
    have g:QY p.rZ.Body ((i:Int)*size) (((i:Int)+1)*size)=true:=by
     simp only[len] at cd HP
     simp only[QY,Bool.and_eq_true,decide_eq_true_eq]
     omega
    simp only[hm,g,nc,cond_true]
 exact key 330 0 [] 400 (by omega) (by omega) (Nat.zero_le _)
def XI (k_:Rows→α) (p:nk) (size:Int):α:=
 bif DF true (nwh (Split p size)) then
  k_ (nep (Split p size))
 else jK
def Pk (p:nk) (size:Int):Rows:=nep (Split p size)
theorem nrY (p:nk) (size:Int):(Pk p size).length≤330:=by
 have h:=nxH (Split p size) (Split p size).length 0 []
 have h2:=nvv p size
 simp only[List.length_nil] at h
 exact Nat.le_trans h (by omega)
theorem XH (k_:Rows→α) (p:nk) (size:Int):XI jK k_ p size=k_ (Pk p size):=by
 unfold XI Pk
 exact pn (tJ (decide_eq_true (Nat.le_trans (nvv p size) (by omega)))) rfl
def ndw (k_:Bytes→Bool→α) (t:Bytes):α:=
 let z0:Int:=nK (((sN t).1) - 10)
 let z1:Int:=nK (z0+9)
 let z2:Int:=oM t (nK (z0+2))
 let z3:Int:=nK (z0+20)
 let z4:Bytes:=uP t z0 z3
 let z5:Int:=nK (z0+z2)
 let z6:Int:=nK (tK t z1)
 let z7:Bytes:=(pz (q_ t (nK (z0+12))) (q_ t (nK (z0+16))) z6 (nK (z2 - 20))).1
 let z8:Bytes:=uP t z3 z5
 let z9:Bytes:=z7++z8
 let z10:Bytes:=nO (rM z4)
 let z11:Bytes:=pH t ((sN t).1) z10
 let z12:Int:=rM z9
 let z13:Bytes:=nO (bif bif z12==0 then z6==17 else false then 65535 else z12)
 let z14:nk×Int:=pG (pH z11 ((sN t).2) z13)
 let z15:nk:=z14.1
 let z16:Bytes×Bool:=nU z15
 bif bif decide ((sN t).1<0) then true else bif (oM t ((sN t).1)) != 0 then true else (oM t ((sN t).2)) != 0 then k_ [] false
 else bif DF true (idx z1 t) then
   bif bif decide (z2<nK ((nK (((sN t).2)+2)) - z0)) then true else decide (nK ((len t) - z0)<z2) then k_ [] false
   else bif DF (DF true (QY t z0 z3)) (ss z4) then
     bif DF (DF (DF true (QY t z3 z5)) (oK z7 z8)) (ss z9) then
      bif DF (DF true (oE t ((sN t).1) z10)) (oE z11 ((sN t).2) z13) then
       bif z14.2 != 0 then k_ [] false
       else bif !(((sU z15).1)==t) then k_ [] false
       else k_ z16.1 z16.2
      else jK
     else jK
    else jK
  else jK
theorem Sm {t part:Bytes} {a j:Int} (hs:t.length≤9223372036854775807) (h0:0≤j) (h:j<a):tK (pH t a part) j=tK t j:=by
 unfold pH
 cases hw:qB t a (len part)
 ·rfl
 ·have hh:=(within_iff hs).1 hw
  simp only[len] at hh
  simp only[Bool.not_true,cond_false,tK,List.getD_eq_getElem?_getD]
  rw[List.append_assoc,List.getElem?_append_left (by rw[List.length_take];omega),List.getElem?_take_of_lt (by omega)]
theorem nbD {t part:Bytes} {a j:Int} (hs:t.length≤9223372036854775807) (ha:0≤a) (hl:a+len part≤len t) (h0:0≤j) (h:j<len part):tK (pH t a part) (a+j)=tK part j:=by
 unfold pH
 simp only[len] at hl h
 rw[(within_iff hs).2 ⟨ha,by simp only[len];omega,by simp only[len];omega⟩]
 simp only[Bool.not_true,cond_false,tK,List.getD_eq_getElem?_getD]
 rw[List.append_assoc,List.getElem?_append_right (by rw[List.length_take];omega),List.getElem?_append_left (by rw[List.length_take];omega)]
 congr 4
 rw[List.length_take]
 omega
def ntu (s t:Bytes):Prop:=s.length=t.length∧∀j:Int,0≤j→j<24→tK s j=tK t j
theorem nof {s t:Bytes} (h:ntu s t) {a:Int} (h0:0≤a) (h1:a<23):oM s a=oM t a:=by
 have hl:len s=len t:=by simp only[len,h.1]
 unfold oM qB NB
 rw[hl,h.2 a h0 (by omega),h.2 (a+1) (by omega) (by omega)]
theorem nyO {s t:Bytes} (h:ntu s t) {a:Int} (h0:0≤a) (h1:a<21):q_ s a=q_ t a:=by
 have hl:len s=len t:=by simp only[len,h.1]
 unfold q_
 rw[hl,h.2 a h0 (by omega),h.2 (a+1) (by omega) (by omega),h.2 (a+2) (by omega) (by omega),h.2 (a+3) (by omega) (by omega)]
theorem nxj {e f:qI} (h1:e.Ua=f.Ua) (h2:e.Src=f.Src) (h3:e.sO=f.sO) (h4:e.zh=f.zh) (h5:e.Body.length=f.Body.length):vP e=vP f:=by
 unfold vP xG
 simp only[len,h1,h2,h3,h4,h5]
theorem nzb {s t:Bytes} (h:ntu s t):(oH s).2=(oH t).2:=by
 have he:vP (Ub s)=vP (Ub t):=by
  have g12:=nof h (a:=12) (by omega) (by omega)
  refine nxj ?_ ?_ ?_ ?_ ?_
  ·simp only[Ub,nof h (a:=0) (by omega) (by omega),nyO h (a:=2) (by omega) (by omega)]
  ·simp only[Ub,nof h (a:=6) (by omega) (by omega),nyO h (a:=8) (by omega) (by omega)]
  ·simp only[Ub,g12,nof h (a:=14) (by omega) (by omega)]
  ·simp only[Ub,g12,nof h (a:=16) (by omega) (by omega)]
  ·simp only[Ub,nN,g12,List.length_drop,h.1]
 have hl:len s=len t:=by simp only[len,h.1]
 unfold oH
 rw[hl,he]
 cases decide (len t<18)<;>cases !(vP (Ub t))<;>rfl
theorem Vf {s:Bytes} (h:((pG s).2 != 0)=false):(oH s).2=true∧rA (pG s).1=true:=by
 unfold pG RO at h ⊢
 cases he:(oH s).2
 ·rw[he] at h;cases h
 rw[he] at h
 refine⟨rfl, ?_⟩
 revert h
 simp only[Bool.not_true,cond_false]
 cases ((oH s).1.zh != 2048)
 case true=>intro h;cases h
 cases (sr (oH s).1.Body).2
 case false=>intro h;cases h
 generalize xy (sr (oH s).1.Body).1.Src (sr (oH s).1.Body).1.Ua (sr (oH s).1.Body).1.noL (sr (oH s).1.Body).1.Body=g
 cases g.2
 case false=>intro h;cases h
 simp only[Bool.not_true,cond_false]
 generalize hp:(⟨(oH s).1.Ua,(oH s).1.Src,(oH s).1.sO,(sr (oH s).1.Body).1.Tos,(sr (oH s).1.Body).1.Id,(sr (oH s).1.Body).1.Ttl,(sr (oH s).1.Body).1.Src,(sr (oH s).1.Body).1.Ua,g.1⟩:nk)=p
 cases hs:rA p
 case false=>intro h;cases h
 intro _
 exact hs
def Tl (t:Bytes):Int:=oM t (nN t+2)
def fsK (t:Bytes):Int:=tK t (nN t+9)
def fsA (t:Bytes):Int:=nN t+10
def fsB (t:Bytes):Int:=nN t+20+p_ (fsK t)
def nbh (t:Bytes):Bool:=decide (nN t+46≤len t) && (decide (22+p_ (fsK t)≤Tl t) && decide (Tl t≤len t - nN t))
def nvW (t:Bytes):Bytes:=uP t (nN t) (nN t+20)
def nr7 (t:Bytes):Bytes:=(pz (q_ t (nN t+12)) (q_ t (nN t+16)) (fsK t) (Tl t - 20)).1++uP t (nN t+20) (nN t+Tl t)
def fsY (t:Bytes):Int:=bif bif (rM (nr7 t))==0 then fsK t==17 else false then 65535 else rM (nr7 t)
def fsS (t:Bytes):Bytes:=pH (pH t (fsA t) (nO (rM (nvW t)))) (fsB t) (nO (fsY t))
def nr6 (t:Bytes):Bool:=bif (pG (fsS t)).2 != 0 then true else !((sU (pG (fsS t)).1).1==t)
def rz (t:Bytes):Bytes×Bool:=bif !(nbh t) then ([],false) else bif nr6 t then ([],false) else nU (pG (fsS t)).1
theorem Rw (k:Int):p_ k=6∨p_ k=16:=by
 rw[YH]
 cases k==6<;>simp
theorem nzI {t:Bytes} (hl:t.length≤4294967296) (h:((pG (fsS t)).2 != 0)=false):(oH t).2=true:=by
 rw[←nzb (s:=fsS t) ?_]
 ·exact (Vf h).1
 have ha:=SX t
 have hs:=Rw (fsK t)
 have e1:(pH t (fsA t) (nO (rM (nvW t)))).length=t.length:=sT (by omega)
 refine⟨by unfold fsS;rw[sT (by omega),e1],fun j h0 h1=> ?_⟩
 unfold fsS
 rw[Sm (by omega) h0 (by unfold fsB;omega),Sm (by omega) h0 (by unfold fsA;omega)]
theorem nyi:nO 0=[0,0]:=by unfold nO wN;rfl
theorem ny4 {t:Bytes} (h:nr6 t=false):oM t (fsA t)=0∧oM t (fsB t)=0:=by
 unfold nr6 at h
 cases h1:((pG (fsS t)).2 != 0)
 case true=>rw[h1] at h;cases h
 rw[h1,cond_false] at h
 have hS:=(Vf h1).2
 have hT:(sU (pG (fsS t)).1).1=t:=by simpa using noZ (b:=(sU (pG (fsS t)).1).1==t) h
 generalize (pG (fsS t)).1=p at hS hT
 have hi:(nU p).2=true:=by rw[noz];exact hS
 have il:=nwQ hi
 have ib:=ze p
 unfold sU at hT
 rw[hi] at hT
 simp only[Bool.not_true,cond_false] at hT
 generalize (nU p).1=g at*
 have ga:=SX g
 have s1:NH g=(nN g+10,nN g+20+p_ (tK g (nN g+9))):=by
  unfold NH
  rw[decide_eq_true (show nN g+9<len g by omega)]
  rfl
 have hq:=Rw (tK g (nN g+9))
 rw[s1,nyi] at hT
 simp only at hT
 have z2:len ([0,0]:Bytes)=2:=rfl
 have lg1:(pH g (nN g+10) [0,0]).length=g.length:=sT (by omega)
 have lt:t.length=g.length:=by rw[←hT,sT (by omega),lg1]
 have low:∀j:Int,0≤j→j<nN g+10→tK t j=tK g j:=by
  intro j h0 h1
  rw[←hT,Sm (by omega) h0 (by omega),Sm (by omega) h0 h1]
 have hA:nN t=nN g:=by
  unfold nN
  rw[nof (s:=t) (t:=g) ⟨lt,fun j h0 h1=>low j h0 (by omega)⟩ (by omega) (by omega)]
 have hK:fsK t=tK g (nN g+9):=by
  unfold fsK
  rw[hA,low _ (by omega) (by omega)]
 unfold fsA fsB
 rw[hK,hA]
 have lt2:len t=len g:=by simp only[len];omega
 have l1:len (pH g (nN g+10) [0,0])=len g:=by simp only[len];omega
 refine⟨?_, ?_⟩
 ·rw[nki (by omega) (by omega) (by omega)]
  have a0:=nbD (t:=g) (part:=[0,0]) (a:=nN g+10) (j:=0) (by omega) (by omega) (by omega) (by omega) (by rw[z2];omega)
  have a1:=nbD (t:=g) (part:=[0,0]) (a:=nN g+10) (j:=1) (by omega) (by omega) (by omega) (by omega) (by rw[z2];omega)
  rw[Int.add_zero] at a0
  rw[←hT,Sm (by omega) (by omega) (by omega),a0,Sm (by omega) (by omega) (by omega),a1]
  rfl
 ·rw[nki (by omega) (by omega) (by omega)]
  have a0:=nbD (t:=pH g (nN g+10) [0,0]) (part:=[0,0]) (a:=nN g+20+p_ (tK g (nN g+9))) (j:=0) (by omega) (by omega) (by omega) (by omega) (by rw[z2];omega)
  have a1:=nbD (t:=pH g (nN g+10) [0,0]) (part:=[0,0]) (a:=nN g+20+p_ (tK g (nN g+9))) (j:=1) (by omega) (by omega) (by omega) (by omega) (by rw[z2];omega)
  rw[Int.add_zero] at a0
  rw[←hT,a0,a1]
  rfl
theorem nzp {t:Bytes} (hl:t.length≤4294967296) (h:nbh t=true):(pz (q_ t (nN t+12)) (q_ t (nN t+16)) (fsK t) (Tl t - 20)).2=true∧(nr7 t).length≤100000∧(nvW t).length≤20:=by
 have ha:=SX t
 simp only[nbh,Bool.and_eq_true,decide_eq_true_eq] at h
 obtain⟨h1,h2,h3⟩:=h
 have hq:=Rw (fsK t)
 have r1:=PD t (nN t+2)
 have r2:=PF t (nN t+12)
 have r3:=PF t (nN t+16)
 have p2:=PE (s:=t) (a:=nN t+12) (by omega) (by omega)
 have p3:=PE (s:=t) (a:=nN t+16) (by omega) (by omega)
 have k0:=ry t (nN t+9)
 have k1:=sC t (nN t+9)
 have r1':Tl t≤65535:=r1.2
 have k0':0≤fsK t:=k0
 have k1':fsK t<256:=k1
 refine⟨?_, ?_, ?_⟩
 ·unfold pz
  rw[show nf (q_ t (nN t+12)) 0 4294967295=true from n0.2 ⟨p2,r2.2⟩,show nf (q_ t (nN t+16)) 0 4294967295=true from n0.2 ⟨p3,r3.2⟩,show nf (fsK t) 0 255=true from n0.2 ⟨k0',by omega⟩,show nf (Tl t - 20) 0 65535=true from n0.2 ⟨by omega,by omega⟩]
  rfl
 ·have:=RJ (q_ t (nN t+12)) (q_ t (nN t+16)) (fsK t) (Tl t - 20)
  simp only[nr7,List.length_append,uP,List.length_drop,List.length_take]
  omega
 ·simp only[nvW,uP,List.length_drop,List.length_take]
  omega
theorem nq5 (k_:Bytes→Bool→α) (t:Bytes) (aF:ss t=true):ndw jK k_ t=k_ (rz t).1 (rz t).2:=by
 have hl:t.length≤4294967296:=of_decide_eq_true aF
 have hl0:len t≤4294967296:=by simp only[len];omega
 have ha:=SX t
 unfold ndw rz
 dsimp only
 by_cases h46:len t<nN t+46
 ·have e1:sN t=(-1, -1):=by unfold sN;rw[decide_eq_true h46];rfl
  have e2:nbh t=false:=by unfold nbh;rw[decide_eq_false (by omega)];rfl
  rw[e1,e2]
  rfl
 have hq:=Rw (fsK t)
 have e1:sN t=(fsA t,fsB t):=by
  unfold sN NH
  rw[decide_eq_false h46,decide_eq_true (show nN t+9<len t by omega)]
  rfl
 have r1:=PD t (nN t+2)
 have r1':Tl t≤65535∧ -1≤Tl t:=⟨r1.2,r1.1⟩
 have k0:=ry t (nN t+9)
 have k1:=sC t (nN t+9)
 have w0:nK (fsA t - 10)=nN t:=by unfold fsA;rw[nF (by omega) (by omega)];omega
 have w9:nK (nN t+9)=nN t+9:=nF (by omega) (by omega)
 have w2:nK (nN t+2)=nN t+2:=nF (by omega) (by omega)
 have w12:nK (nN t+12)=nN t+12:=nF (by omega) (by omega)
 have w16:nK (nN t+16)=nN t+16:=nF (by omega) (by omega)
 have w20:nK (nN t+20)=nN t+20:=nF (by omega) (by omega)
 have wk:nK (tK t (nN t+9))=fsK t:=nF (by omega) (by omega)
 have wn:nK (nN t+Tl t)=nN t+Tl t:=nF (by omega) (by omega)
 have wm:nK (Tl t - 20)=Tl t - 20:=nF (by omega) (by omega)
 have wb2:nK (fsB t+2)=fsB t+2:=nF (by unfold fsB;omega) (by unfold fsB;omega)
 have wb:nK (fsB t+2 - nN t)=22+p_ (fsK t):=by
  rw[nF (by unfold fsB;omega) (by unfold fsB;omega)]
  unfold fsB;omega
 have wl:nK (len t - nN t)=len t - nN t:=nF (by omega) (by omega)
 have hN:oM t (nN t+2)=Tl t:=rfl
 have nzS:decide (fsA t<0)=false:=decide_eq_false (by unfold fsA;omega)
 simp only[e1,w0,w9,w2,w12,w16,w20,wk,hN,wn,wm,wb2,wb,wl,nzS,cond_false]
 have nAa:∀b:Bool,(b=true→nr6 t=true)→(bif b then ([],false) else rz t)=rz t:=by
  intro b hb
  cases b
  ·rfl
  ·unfold rz
   rw[hb rfl]
   cases nbh t<;>rfl
 have hz:(bif (oM t (fsA t)) != 0 then true else (oM t (fsB t)) != 0)=true→nr6 t=true:=by
  intro h
  cases hn:nr6 t
  ·obtain⟨z1,z2⟩:=ny4 hn
   rw[z1,z2] at h
   cases h
  ·rfl
 have hF:rz t=bif !(nbh t) then ([],false) else bif nr6 t then ([],false) else nU (pG (fsS t)).1:=rfl
 rw[←hF,←nAa _ hz]
 refine pj (K:=fun z:Bytes×Bool=>k_ z.1 z.2) (fun _=>rfl) (fun _=> ?_)
 have db:idx (nN t+9) t=true:=by
  simp only[len] at h46
  simp only[idx,Bool.and_eq_true,decide_eq_true_eq]
  omega
 refine pn (tJ db) ?_
 have hc:(bif decide (Tl t<22+p_ (fsK t)) then true else decide (len t - nN t<Tl t))= !(nbh t):=by
  unfold nbh
  rw[decide_eq_true (show nN t+46≤len t by omega)]
  by_cases c1:Tl t<22+p_ (fsK t)
  ·rw[decide_eq_true c1,decide_eq_false (show ¬22+p_ (fsK t)≤Tl t by omega)]
   rfl
  ·by_cases c2:len t - nN t<Tl t
   ·rw[decide_eq_false c1,decide_eq_true c2,decide_eq_false (show ¬Tl t≤len t - nN t by omega)]
    cases decide (22+p_ (fsK t)≤Tl t)<;>rfl
   ·rw[decide_eq_false c1,decide_eq_false c2,decide_eq_true (show 22+p_ (fsK t)≤Tl t by omega),decide_eq_true (show Tl t≤len t - nN t by omega)]
    rfl
 rw[hc]
 unfold rz
 refine pj (K:=fun z:Bytes×Bool=>k_ z.1 z.2) (fun _=>rfl) (fun hg=> ?_)
 have hk:=noZ hg
 obtain⟨f1,f2,f3⟩:=nzp hl hk
 have B6:=hk
 simp only[nbh,Bool.and_eq_true,decide_eq_true_eq] at B6
 have g1:QY t (nN t) (nN t+20)=true:=by
  simp only[len] at B6
  simp only[QY,Bool.and_eq_true,decide_eq_true_eq];omega
 have g2:QY t (nN t+20) (nN t+Tl t)=true:=by
  simp only[len] at B6
  simp only[QY,Bool.and_eq_true,decide_eq_true_eq];omega
 have g3:ss (nvW t)=true:=decide_eq_true (by omega)
 have g4:ss (nr7 t)=true:=decide_eq_true (by omega)
 have g5:oK (pz (q_ t (nN t+12)) (q_ t (nN t+16)) (fsK t) (Tl t - 20)).1 (uP t (nN t+20) (nN t+Tl t))=true:=by
  refine Pm ?_
  rw[←List.length_append]
  exact Nat.le_trans f2 (by omega)
 have g6:∀v,oE t (fsA t) (nO v)=true:=fun v=>by
  have:=oq v
  simp only[oE,Bool.and_eq_true,decide_eq_true_eq];omega
 have g7:∀v u,oE (pH t (fsA t) (nO u)) (fsB t) (nO v)=true:=fun v u=>by
  have:=oq v
  simp only[oE,Bool.and_eq_true,decide_eq_true_eq]
  rw[sT (by omega)]
  omega
 refine pn (by rw[g1];exact tJ g3) ?_
 refine pn (by rw[g2,g5];exact tJ g4) ?_
 refine pn (by rw[g6,g7];rfl) ?_
 have hre:∀(x y:Bool) (B:Bytes×Bool),(bif x then k_ [] false else bif y then k_ [] false else k_ B.1 B.2)=(fun z:Bytes×Bool=>k_ z.1 z.2) (bif (bif x then true else y) then ([],false) else B):=by
  intro x y B
  cases x<;>cases y<;>rfl
 exact hre _ _ _
def nbX (k_:Bytes→Bool→α) (t:Bytes):α:=
 let z0:Int:=oM (((oH t).1).Body) 2
 let z1:Int:=nK (tK (((oH t).1).Body) 9)
 let z2:Bytes:=uP (((oH t).1).Body) 20 z0
 let z3:Int:=len z2
 let z4:Bytes×Bool:=pz (q_ (((oH t).1).Body) 12) (q_ (((oH t).1).Body) 16) z1 z3
 let z5:Bytes:=z4.1
 let z6:Bytes:=z5++z2
 let z7:Bytes:=Rv (((oH t).1).Body) 20
 let z8:Bytes:=nO (rM z7)
 let z9:Bytes:=pH t ((NH t).1) z8
 let z10:Int:=rM z6
 let z11:Bytes:=nO (bif bif z1==17 then z10==0 else false then 65535 else z10)
 let z12:nk×Int:=pG (pH z9 ((NH t).2) z11)
 let z13:nk:=z12.1
 let z14:Bytes×Bool:=sU z13
 let z15:Bytes×Bool:=nU z13
 bif bif !((oH t).2) then true else bif decide (z0<20) then true else decide (len (((oH t).1).Body)<z0) then k_ [] false
 else bif DF true (QY (((oH t).1).Body) 20 z0) then
   bif DF true (idx 9 (((oH t).1).Body)) then
    bif bif !z4.2 then true else decide (z3<nK ((p_ z1)+2)) then k_ [] false
    else bif DF (DF true (oK z5 z2)) (ss z6) then
      bif DF (DF (DF (DF true (okH (((oH t).1).Body) 20)) (ss z7)) (oE t ((NH t).1) z8)) (oE z9 ((NH t).2) z11) then
       bif bif z12.2 != 0 then true else bif !z14.2 then true else !(z14.1==t) then k_ [] false
       else k_ z15.1 z15.2
      else jK
     else jK
   else jK
  else jK
theorem npg (k_:Bytes→Bool→α) (t:Bytes) (aF:ss t=true):nbX jK k_ t=k_ (rz t).1 (rz t).2:=by
 have hl:t.length≤4294967296:=of_decide_eq_true aF
 have hl0:len t≤4294967296:=by simp only[len];omega
 have ha:=SX t
 unfold nbX rz
 dsimp only
 cases he:(oH t).2
 ·have hR:(bif !(nbh t) then (([],false):Bytes×Bool) else bif nr6 t then ([],false) else nU (pG (fsS t)).1)=([],false):=by
   cases nbh t
   ·rfl
   ·cases hn:nr6 t
    ·have:=nzI hl (show ((pG (fsS t)).2 != 0)=false by
      unfold nr6 at hn
      cases h:((pG (fsS t)).2 != 0)
      ·rfl
      ·rw[h] at hn;cases hn)
     rw[he] at this
     cases this
    ·rfl
  rw[hR]
  rfl
 have hE:(oH t).1=Ub t∧vP (Ub t)=true∧18≤len t:=by
  unfold oH at he ⊢
  by_cases h18:len t<18
  ·rw[decide_eq_true h18] at he;cases he
  rw[decide_eq_false h18] at he ⊢
  cases hE:vP (Ub t)
  ·rw[hE] at he;cases he
  ·exact⟨rfl,rfl,by omega⟩
 obtain⟨e1,e2,e3⟩:=hE
 have eb:(Ub t).Body=t.drop (nN t).toNat:=rfl
 have Ll:(t.drop (nN t).toNat).length=t.length - (nN t).toNat:=List.length_drop
 have h46:46≤t.length - (nN t).toNat:=by
  have:=nrU e2
  rw[eb,Ll] at this
  exact this
 have lb:len (t.drop (nN t).toNat)=len t - nN t:=by simp only[len];omega
 have nAg:nN t+46≤len t:=by simp only[len];omega
 have dAt:∀j:Int,0≤j→tK (t.drop (nN t).toNat) j=tK t (nN t+j):=by
  intro j h0
  simp only[tK,List.getD_eq_getElem?_getD,List.getElem?_drop]
  congr 4
  omega
 have d16:oM (t.drop (nN t).toNat) 2=Tl t:=by
  rw[nki (by omega) (by omega) (by omega),dAt 2 (by omega),dAt (2+1) (by omega)]
  unfold Tl
  rw[nki (by omega) (by omega) (by omega)]
  rw[Int.add_assoc]
 have d32:∀j:Int,0≤j→j+4≤46→q_ (t.drop (nN t).toNat) j=q_ t (nN t+j):=by
  intro j h0 h1
  unfold q_
  rw[dAt j h0,dAt (j+1) (by omega),dAt (j+2) (by omega),dAt (j+3) (by omega)]
  rw[decide_eq_false (show ¬j<0 by omega),decide_eq_false (show ¬nN t+j<0 by omega),decide_eq_false (show ¬len (t.drop (nN t).toNat)<j+4 by omega),decide_eq_false (show ¬len t<nN t+j+4 by omega)]
  simp only[cond_false,Int.add_assoc]
 have d9:nK (tK (t.drop (nN t).toNat) 9)=fsK t:=by
  rw[dAt 9 (by omega)]
  have k0:=ry t (nN t+9)
  have k1:=sC t (nN t+9)
  exact nF (by omega) (by omega)
 have dS:uP (t.drop (nN t).toNat) 20 (Tl t)=uP t (nN t+20) (nN t+Tl t):=by
  by_cases hn:0≤Tl t
  ·simp only[uP]
   rw[List.take_drop,List.drop_drop]
   congr 2<;>omega
  ·have r1:=PD t (nN t+2)
   have hN:Tl t= -1:=by have: -1≤Tl t:=r1.1;omega
   rw[hN]
   simp only[uP]
   rw[show Int.toNat (-1)=0 by rfl,List.take_zero,List.drop_nil,List.drop_of_length_le (by rw[List.length_take];omega)]
 have dH:Rv (t.drop (nN t).toNat) 20=nvW t:=by
  simp only[Rv,nvW,uP,List.drop_zero]
  rw[List.take_drop]
  congr 2;omega
 have sp:NH t=(fsA t,fsB t):=by
  unfold NH
  rw[decide_eq_true (show nN t+9<len t by omega)]
  rfl
 simp only[e1,eb,d16,d9,dS,dH,sp,lb,d32 12 (by omega) (by omega),d32 16 (by omega) (by omega),Bool.not_true]
 have hq:=Rw (fsK t)
 have r1:=PD t (nN t+2)
 have r1':Tl t≤65535∧ -1≤Tl t:=⟨r1.2,r1.1⟩
 have ws:nK (p_ (fsK t)+2)=p_ (fsK t)+2:=nF (by omega) (by omega)
 have hF:rz t=bif !(nbh t) then ([],false) else bif nr6 t then ([],false) else nU (pG (fsS t)).1:=rfl
 rw[←hF,ws,cond_false]
 have A8:nbh t=false→rz t=([],false):=fun h=>by rw[hF,h];rfl
 by_cases c1:Tl t<20
 ·rw[decide_eq_true c1,A8 (by unfold nbh;rw[decide_eq_false (show ¬22+p_ (fsK t)≤Tl t by omega)];cases decide (nN t+46≤len t)<;>rfl)]
  rfl
 by_cases c2:len t - nN t<Tl t
 ·rw[decide_eq_false c1,decide_eq_true c2,A8 (by unfold nbh;rw[decide_eq_false (show ¬Tl t≤len t - nN t by omega)];cases decide (nN t+46≤len t)<;>cases decide (22+p_ (fsK t)≤Tl t)<;>rfl)]
  rfl
 rw[decide_eq_false c1,decide_eq_false c2]
 simp only[cond_false]
 have lT:t.length=(len t).toNat:=by simp only[len];omega
 have g1:QY (t.drop (nN t).toNat) 20 (Tl t)=true:=by
  simp only[len] at c2
  simp only[QY,Bool.and_eq_true,decide_eq_true_eq];omega
 have g2:idx 9 (t.drop (nN t).toNat)=true:=by simp only[idx,Bool.and_eq_true,decide_eq_true_eq];omega
 refine pn (tJ g1) (pn (tJ g2) ?_)
 have lg:len (uP t (nN t+20) (nN t+Tl t))=Tl t - 20:=by
  simp only[len] at c2 ⊢
  simp only[uP,List.length_drop,List.length_take]
  omega
 have hPH:(pz (q_ t (nN t+12)) (q_ t (nN t+16)) (fsK t) (Tl t - 20)).2=true:=by
  have r2:=PF t (nN t+12)
  have r3:=PF t (nN t+16)
  have p2:=PE (s:=t) (a:=nN t+12) (by omega) (by omega)
  have p3:=PE (s:=t) (a:=nN t+16) (by omega) (by omega)
  have k0:0≤fsK t:=ry t (nN t+9)
  have k1:fsK t<256:=sC t (nN t+9)
  unfold pz
  rw[show nf (q_ t (nN t+12)) 0 4294967295=true from n0.2 ⟨p2,r2.2⟩,show nf (q_ t (nN t+16)) 0 4294967295=true from n0.2 ⟨p3,r3.2⟩,show nf (fsK t) 0 255=true from n0.2 ⟨k0,by omega⟩,show nf (Tl t - 20) 0 65535=true from n0.2 ⟨by omega,by omega⟩]
  rfl
 rw[lg,hPH]
 simp only[Bool.not_true,cond_false]
 by_cases c3:Tl t - 20<p_ (fsK t)+2
 ·rw[decide_eq_true c3,A8 (by unfold nbh;rw[decide_eq_false (show ¬22+p_ (fsK t)≤Tl t by omega)];cases decide (nN t+46≤len t)<;>rfl)]
  rfl
 rw[decide_eq_false c3,cond_false]
 have hk:nbh t=true:=by
  unfold nbh
  rw[decide_eq_true nAg,decide_eq_true (show 22+p_ (fsK t)≤Tl t by omega),decide_eq_true (show Tl t≤len t - nN t by omega)]
  rfl
 obtain⟨f1,f2,f3⟩:=nzp hl hk
 have g3:ss (nvW t)=true:=decide_eq_true (by omega)
 have g4:ss (nr7 t)=true:=decide_eq_true (by omega)
 have g5:oK (pz (q_ t (nN t+12)) (q_ t (nN t+16)) (fsK t) (Tl t - 20)).1 (uP t (nN t+20) (nN t+Tl t))=true:=by
  refine Pm ?_
  rw[←List.length_append]
  exact Nat.le_trans f2 (by omega)
 have g6:∀v,oE t (fsA t) (nO v)=true:=fun v=>by
  have:=oq v
  simp only[oE,Bool.and_eq_true,decide_eq_true_eq];omega
 have g7:∀v u,oE (pH t (fsA t) (nO u)) (fsB t) (nO v)=true:=fun v u=>by
  have:=oq v
  simp only[oE,Bool.and_eq_true,decide_eq_true_eq]
  rw[sT (by omega)]
  omega
 have g8:okH (t.drop (nN t).toNat) 20=true:=by simp only[okH,Bool.and_eq_true,decide_eq_true_eq];omega
 refine pn (by rw[g5];exact tJ g4) ?_
 refine pn (by rw[g6,g7,g8,g3];rfl) ?_
 have hY:(bif bif fsK t==17 then (rM (nr7 t))==0 else false then 65535 else rM (nr7 t))=fsY t:=by
  unfold fsY
  cases fsK t==17<;>cases (rM (nr7 t))==0<;>rfl
 have hre:∀(x y z:Bool) (B:Bytes×Bool),(x=false→y=true)→(bif bif x then true else bif !y then true else !z then k_ [] false else k_ B.1 B.2)=(fun z:Bytes×Bool=>k_ z.1 z.2) (bif !true then ([],false) else bif (bif x then true else !z) then ([],false) else B):=by
  intro x y z B h
  cases x
  ·rw[h rfl]
   cases z<;>rfl
  ·rfl
 have hZ:rz t=bif !true then ([],false) else bif (bif (pG (fsS t)).2 != 0 then true else !((sU (pG (fsS t)).1).1==t)) then ([],false) else nU (pG (fsS t)).1:=by rw[hF,hk];rfl
 rw[hZ]
 have hS2:pH (pH t (fsA t) (nO (rM (nvW t)))) (fsB t) (nO (bif bif fsK t==17 then (rM (nr7 t))==0 else false then 65535 else rM (nr7 t)))=fsS t:=by rw[hY];rfl
 refine Eq.trans ?_ (hre ((pG (fsS t)).2 != 0) (sU (pG (fsS t)).1).2 ((sU (pG (fsS t)).1).1==t) _ (fun h=>by rw[nvS];exact (Vf h).2))
 rw[←hS2]
 rfl
def Uq (k_:ny→Rows→Int→α) (list_:Rows) (m:nd) (domain:Int) (r:ny):α:=
 let z0:Rows×Int×Int×Bool:=ot ((oI list_ m domain r).1)
 let z1:Bytes×Bool:=pQ list_ m domain z0.1
 let z2:Bytes:=z1.1
 let z3:Bytes×Bool:=rz z2
 let z4:nk×Int:=pG z3.1
 bif bif !(pJ r) then true else (og r)==0 then k_ r [] 0
 else bif !((oI list_ m domain r).2.2) then k_ ((oI list_ m domain r).2.1) [] 2
 else bif DF true (nfW ((oI list_ m domain r).1)) then
   bif !z0.2.2.2 then k_ ((oI list_ m domain r).2.1) [] 2
   else bif !z1.2 then k_ ((oI list_ m domain r).2.1) [] 2
   else bif DF true (ss z2) then
     bif !z3.2 then k_ ((oI list_ m domain r).2.1) [] 2
     else bif z4.2 != 0 then k_ ((oI list_ m domain r).2.1) [] 2
     else k_ ((oI list_ m domain r).2.1) (Pk z4.1 z0.2.1) 1
    else jK
  else jK
def no8 (T:Rows×ny×Bool) (P:Rows×Int×Int×Bool) (G F:Bytes×Bool) (I:nk×Int):ny×Rows×Int:=
 bif T.2.2 && (P.2.2.2 && (G.2 && (F.2 && !(I.2 != 0)))) then (T.2.1,Pk I.1 P.2.1,1) else (T.2.1,[],2)
def oG (list_:Rows) (m:nd) (domain:Int) (r:ny):ny×Rows×Int:=
 bif bif !(pJ r) then true else (og r)==0 then (r,[],0)
 else no8 (oI list_ m domain r) (ot (oI list_ m domain r).1) (pQ list_ m domain (ot (oI list_ m domain r).1).1) (rz (pQ list_ m domain (ot (oI list_ m domain r).1).1).1) (pG (rz (pQ list_ m domain (ot (oI list_ m domain r).1).1).1).1)
theorem nxz (T:Rows×ny×Bool) (P:Rows×Int×Int×Bool) (G F:Bytes×Bool) (I:nk×Int):(no8 T P G F I).1=T.2.1∧(no8 T P G F I).2.1.length≤330∧((no8 T P G F I).2.2=1∨(no8 T P G F I).2.2=2):=by
 unfold no8
 cases (T.2.2 && (P.2.2.2 && (G.2 && (F.2 && !(I.2 != 0)))))
 ·exact⟨rfl,Nat.zero_le _,.inr rfl⟩
 ·exact⟨rfl,nrY _ _,.inl rfl⟩
theorem nhb (k_:ny→Rows→Int→α) (list_:Rows) (m:nd) (domain:Int) (r:ny) (Vk:jI nd.ct m.enc):Uq jK k_ list_ m domain r=k_ (oG list_ m domain r).1 (oG list_ m domain r).2.1 (oG list_ m domain r).2.2:=by
 have hW:=nd.xu Vk
 unfold Uq oG
 dsimp only
 refine pj (K:=fun z:ny×Rows×Int=>k_ z.1 z.2.1 z.2.2) (fun _=>rfl) (fun hg=> ?_)
 have hr:pJ r=true∧og r≠0:=by
  revert hg
  cases pJ r<;>simp
 obtain⟨t1,t2,t3⟩:=Vg (l:=list_) (m:=m) (d:=domain) hr.1 hr.2
 have hp:nfW (oI list_ m domain r).1=true:=decide_eq_true (by omega)
 have hgl:=Zf (l:=list_) (d:=domain) (pieces:=(ot (oI list_ m domain r).1).1) hW
 have hs1:ss (pQ list_ m domain (ot (oI list_ m domain r).1).1).1=true:=decide_eq_true (by omega)
 generalize oI list_ m domain r=T at*
 generalize ot T.1=P at*
 generalize pQ list_ m domain P.1=G at*
 rw[hp,hs1]
 generalize rz G.1=F at*
 generalize pG F.1=I at*
 unfold no8
 cases T.2.2<;>cases P.2.2.2<;>cases G.2<;>cases F.2<;>cases I.2 != 0<;>rfl
def U0 (k_:ny→Rows→Int→α) (list_:Rows) (m:nd) (domain:Int) (r:ny):α:=
 let z0:Rows×Int×Int×Bool:=ot ((oI list_ m domain r).1)
 let z1:Bytes×Bool:=pQ list_ m domain z0.1
 let z2:Bytes:=z1.1
 let z3:Bytes×Bool:=rz z2
 let z4:nk×Int:=pG z3.1
 bif bif !(pJ r) then true else (og r)==0 then k_ r [] 0
 else bif DF true (nfW ((oI list_ m domain r).1)) then
   bif bif !((oI list_ m domain r).2.2) then true else !z0.2.2.2 then k_ ((oI list_ m domain r).2.1) [] 2
   else bif DF true (ss z2) then
     bif bif !z1.2 then true else bif !z3.2 then true else z4.2 != 0 then k_ ((oI list_ m domain r).2.1) [] 2
     else k_ ((oI list_ m domain r).2.1) (Pk z4.1 z0.2.1) 1
    else jK
  else jK
theorem nhN (k_:ny→Rows→Int→α) (list_:Rows) (m:nd) (domain:Int) (r:ny) (Vk:jI nd.ct m.enc):U0 jK k_ list_ m domain r=k_ (oG list_ m domain r).1 (oG list_ m domain r).2.1 (oG list_ m domain r).2.2:=by
 have hW:=nd.xu Vk
 unfold U0 oG
 dsimp only
 refine pj (K:=fun z:ny×Rows×Int=>k_ z.1 z.2.1 z.2.2) (fun _=>rfl) (fun hg=> ?_)
 have hr:pJ r=true∧og r≠0:=by
  revert hg
  cases pJ r<;>simp
 obtain⟨t1,t2,t3⟩:=Vg (l:=list_) (m:=m) (d:=domain) hr.1 hr.2
 have hp:nfW (oI list_ m domain r).1=true:=decide_eq_true (by omega)
 have hgl:=Zf (l:=list_) (d:=domain) (pieces:=(ot (oI list_ m domain r).1).1) hW
 have hs1:ss (pQ list_ m domain (ot (oI list_ m domain r).1).1).1=true:=decide_eq_true (by omega)
 generalize oI list_ m domain r=T at*
 generalize ot T.1=P at*
 generalize pQ list_ m domain P.1=G at*
 rw[hp,hs1]
 generalize rz G.1=F at*
 generalize pG F.1=I at*
 unfold no8
 cases T.2.2<;>cases P.2.2.2<;>cases G.2<;>cases F.2<;>cases I.2 != 0<;>rfl
def NJ (k_:ny→Rows→Int→Int→α) (list_:Rows) (domain:Int) (qi:Rows) (ov:Int→Int→Int→Int→Int→Int→Rows→α) (done ni0 r_1 r_2 r_3 r_4:Int) (ni4:Rows):α:=
 let z0:ny×Rows×Int:=oG list_ (⟨qi⟩:nd) domain (⟨r_1,r_2,r_3,r_4⟩:ny)
 let z1:Bool:=z0.2.2==1
 bif z0.2.2==0 then k_ z0.1 ni4 done ni0
 else bif DF true (oT 16 ni4 z0.2.1) then
   ov (bif z1 then nK (done+1) else done) (bif z1 then ni0 else nK (ni0+1)) z0.1.oR z0.1.nR z0.1.Head z0.1.pV (ni4++z0.2.1)
  else jK
def wZ (k_:ny→Rows→Int→Int→α) (N:Nat) (list_:Rows) (domain:Int) (qi:Rows) (m_:Nat):Int→Int→Int→Int→Int→Int→Rows→α:=
 Nat.rec (motive:=fun _=>Int→Int→Int→Int→Int→Int→Rows→α) (fun _ _ _ _ _ _ _=>jK) (fun _ ov=>NJ jK k_ list_ domain qi ov) m_
theorem neh (k_:ny→Rows→Int→Int→α) (N:Nat) (list_:Rows) (domain:Int) (qi:Rows) (m_:Nat):wZ jK k_ N list_ domain qi (m_+1)=NJ jK k_ list_ domain qi (wZ jK k_ N list_ domain qi m_):=rfl
def Po {α:Type} (jK:α) (k_:ny→Rows→Int→Int→α) (l0:Rows→Int→Int→Int→Int→Int→Int→Rows→α) (list_:Rows) (m:nd) (domain:Int) (r:ny):α:=
 l0 m.nV 0 0 r.oR r.nR r.Head r.pV []
def VG (k_:ny→Rows→Int→Int→α) (N:Nat) (list_:Rows) (m:nd) (domain:Int) (r:ny):α:=Po jK k_ (fun qi=>wZ jK k_ N list_ domain qi N) list_ m domain r
theorem PX {l:Rows} {m:nd} {d:Int} (x:ny):(oG l m d x).2.1.length≤330∧((oG l m d x).2.2=0→(oG l m d x).1=x)∧
  ((oG l m d x).2.2≠0→pJ x=true∧pJ (oG l m d x).1=true∧og (oG l m d x).1<og x):=by
 unfold oG
 cases hg:(bif !(pJ x) then true else (og x)==0)
 ·have hr:pJ x=true∧og x≠0:=by
   revert hg
   cases pJ x<;>simp
  simp only[cond_false]
  have ht:=Vg (l:=l) (m:=m) (d:=d) hr.1 hr.2
  have he:=nxz (oI l m d x) (ot (oI l m d x).1) (pQ l m d (ot (oI l m d x).1).1) (rz (pQ l m d (ot (oI l m d x).1).1).1) (pG (rz (pQ l m d (ot (oI l m d x).1).1).1).1)
  refine⟨he.2.1,fun h=> ?_,fun _=>⟨hr.1, ?_, ?_⟩⟩
  ·rcases he.2.2 with h2 | h2<;>rw[h2] at h<;>cases h
  ·rw[he.1];exact ht.1
  ·rw[he.1];exact ht.2.1
 ·exact⟨Nat.zero_le _,fun _=>rfl,fun h=>absurd rfl h⟩
def nwy (list_:Rows) (m:nd) (domain:Int):Nat→ny→Rows→Int→Int→ny×Rows×Int×Int
 | 0,r,o,dn,bd=>(r,o,dn,bd)
 | n+1,r,o,dn,bd=>bif (oG list_ m domain r).2.2==0 then (r,o,dn,bd)
  else nwy list_ m domain n (oG list_ m domain r).1 (o++(oG list_ m domain r).2.1) (bif (oG list_ m domain r).2.2==1 then nK (dn+1) else dn) (bif (oG list_ m domain r).2.2==1 then bd else nK (bd+1))
def qs (list_:Rows) (m:nd) (domain:Int) (r:ny):ny×Rows×Int×Int:=nwy list_ m domain 40 r [] 0 0
theorem nw_ {l:Rows} {m:nd} {d:Int} :∀(n:Nat) (x:ny) (o:Rows) (dn bd:Int),(nwy l m d n x o dn bd).2.1.length≤o.length+n*330
 | 0,_,_,_,_=>by simp [nwy]
 | n+1,x,o,dn,bd=>by
  unfold nwy
  have h:=(PX (l:=l) (m:=m) (d:=d) x).1
  have ih:=nw_ (l:=l) (m:=m) (d:=d) n (oG l m d x).1 (o++(oG l m d x).2.1) (bif (oG l m d x).2.2==1 then nK (dn+1) else dn) (bif (oG l m d x).2.2==1 then bd else nK (bd+1))
  rw[List.length_append] at ih
  cases (oG l m d x).2.2==0
  ·simp only[cond_false];omega
  ·simp only[cond_true];omega
theorem Tn (l:Rows) (m:nd) (d:Int) (x:ny):(qs l m d x).2.1.length≤13200:=by
 have:=nw_ (l:=l) (m:=m) (d:=d) 40 x [] 0 0
 simp only[List.length_nil] at this
 exact Nat.le_trans this (by omega)
theorem njc (k_:ny→Rows→Int→Int→α) (list_:Rows) (m:nd) (domain:Int) (r:ny):∃N,VG jK k_ N list_ m domain r=k_ (qs list_ m domain r).1 (qs list_ m domain r).2.1 (qs list_ m domain r).2.2.1 (qs list_ m domain r).2.2.2:=by
 unfold VG Po qs
 refine⟨40, ?_⟩
 have key:∀(n:Nat) (x:ny) (o:Rows) (dn bd:Int) (N:Nat),(pJ x=true→og x<n)→0<n→n≤N→o.length+n*330≤20000→n≤40→
   wZ jK k_ 40 list_ domain m.nV N dn bd x.oR x.nR x.Head x.pV o=(fun z:ny×Rows×Int×Int=>k_ z.1 z.2.1 z.2.2.1 z.2.2.2) (nwy list_ m domain n x o dn bd):=by
  intro n
  induction n with
  | zero=>intro x o dn bd N h1 h2;omega
  | succ n ih=>
   intro x o dn bd N h1 h2 h3 h4 h5
   obtain⟨N,rfl⟩:∃q,N=q+1:=⟨N - 1,by omega⟩
   rw[neh]
   have hx:(⟨x.oR,x.nR,x.Head,x.pV⟩:ny)=x:=rfl
   have hm:(⟨m.nV⟩:nd)=m:=rfl
   obtain⟨p1,p2,p3⟩:=PX (l:=list_) (m:=m) (d:=domain) x
   have dV:oT 16 o (oG list_ m domain x).2.1=true:=qY (by omega) (by omega)
   simp only[NJ,nwy,hx,hm,dV,nc,cond_true]
   refine pj (K:=fun z:ny×Rows×Int×Int=>k_ z.1 z.2.1 z.2.2.1 z.2.2.2) (fun hc=>by rw[p2 (beq_iff_eq.1 hc)]) (fun hc=> ?_)
   obtain⟨q1,q2,q3⟩:=p3 (beq_eq_false_iff_ne.1 hc)
   have h1:=h1 q1
   have jV:0≤og (oG list_ m domain x).1:=by
    obtain⟨f1,f2,f3,f4,f5,f6,f7,f8,f9⟩:=wT q2
    rw[f2]
    exact Int.emod_nonneg _ (by omega)
   exact ih _ _ _ _ N (fun _=>by omega) (by omega) (by omega) (by rw[List.length_append];omega) (by omega)
 refine key 40 r [] 0 0 40 (fun h=> ?_) (by omega) (by omega) (by simp) (by omega)
 obtain⟨f1,f2,f3,f4,f5,f6,f7,f8,f9⟩:=wT h
 omega
def NW (k_:ny→Rows→Int→Int→α) (list_:Rows) (domain:Int) (qi:Rows) (ov:Int→Int→Int→Int→Int→Int→Rows→α) (done ni0 r_1 r_2 r_3 r_4:Int) (nD:Rows):α:=
 let z0:ny×Rows×Int:=oG list_ (⟨qi⟩:nd) domain (⟨r_1,r_2,r_3,r_4⟩:ny)
 let z1:Bool:=z0.2.2==1
 bif z0.2.2==0 then k_ (⟨r_1,r_2,r_3,r_4⟩:ny) nD done ni0
 else bif DF true (oT 16 nD z0.2.1) then
   ov (bif z1 then nK (done+1) else done) (bif z1 then ni0 else nK (ni0+1)) z0.1.oR z0.1.nR z0.1.Head z0.1.pV (nD++z0.2.1)
  else jK
def xd (k_:ny→Rows→Int→Int→α) (N:Nat) (list_:Rows) (domain:Int) (qi:Rows) (m_:Nat):Int→Int→Int→Int→Int→Int→Rows→α:=
 Nat.rec (motive:=fun _=>Int→Int→Int→Int→Int→Int→Rows→α) (fun _ _ _ _ _ _ _=>jK) (fun _ ov=>NW jK k_ list_ domain qi ov) m_
theorem nen (k_:ny→Rows→Int→Int→α) (N:Nat) (list_:Rows) (domain:Int) (qi:Rows) (m_:Nat):xd jK k_ N list_ domain qi (m_+1)=NW jK k_ list_ domain qi (xd jK k_ N list_ domain qi m_):=rfl
def PB {α:Type} (jK:α) (k_:ny→Rows→Int→Int→α) (l0:Rows→Int→Int→Int→Int→Int→Int→Rows→α) (list_:Rows) (m:nd) (domain:Int) (r:ny):α:=
 l0 m.nV 0 0 r.oR r.nR r.Head r.pV []
def W3 (k_:ny→Rows→Int→Int→α) (N:Nat) (list_:Rows) (m:nd) (domain:Int) (r:ny):α:=PB jK k_ (fun qi=>xd jK k_ N list_ domain qi N) list_ m domain r
theorem nj8 (k_:ny→Rows→Int→Int→α) (list_:Rows) (m:nd) (domain:Int) (r:ny):∃N,W3 jK k_ N list_ m domain r=k_ (qs list_ m domain r).1 (qs list_ m domain r).2.1 (qs list_ m domain r).2.2.1 (qs list_ m domain r).2.2.2:=by
 unfold W3 PB qs
 refine⟨40, ?_⟩
 have key:∀(n:Nat) (x:ny) (o:Rows) (dn bd:Int) (N:Nat),(pJ x=true→og x<n)→0<n→n≤N→o.length+n*330≤20000→n≤40→
   xd jK k_ 40 list_ domain m.nV N dn bd x.oR x.nR x.Head x.pV o=(fun z:ny×Rows×Int×Int=>k_ z.1 z.2.1 z.2.2.1 z.2.2.2) (nwy list_ m domain n x o dn bd):=by
  intro n
  induction n with
  | zero=>intro x o dn bd N h1 h2;omega
  | succ n ih=>
   intro x o dn bd N h1 h2 h3 h4 h5
   obtain⟨N,rfl⟩:∃q,N=q+1:=⟨N - 1,by omega⟩
   rw[nen]
   have hx:(⟨x.oR,x.nR,x.Head,x.pV⟩:ny)=x:=rfl
   have hm:(⟨m.nV⟩:nd)=m:=rfl
   obtain⟨p1,p2,p3⟩:=PX (l:=list_) (m:=m) (d:=domain) x
   have dV:oT 16 o (oG list_ m domain x).2.1=true:=qY (by omega) (by omega)
   simp only[NW,nwy,hx,hm,dV,nc,cond_true]
   refine pj (K:=fun z:ny×Rows×Int×Int=>k_ z.1 z.2.1 z.2.2.1 z.2.2.2) (fun hc=>rfl) (fun hc=> ?_)
   obtain⟨q1,q2,q3⟩:=p3 (beq_eq_false_iff_ne.1 hc)
   have h1:=h1 q1
   have jV:0≤og (oG list_ m domain x).1:=by
    obtain⟨f1,f2,f3,f4,f5,f6,f7,f8,f9⟩:=wT q2
    rw[f2]
    exact Int.emod_nonneg _ (by omega)
   exact ih _ _ _ _ N (fun _=>by omega) (by omega) (by omega) (by rw[List.length_append];omega) (by omega)
 refine key 40 r [] 0 0 40 (fun h=> ?_) (by omega) (by omega) (by simp) (by omega)
 obtain⟨f1,f2,f3,f4,f5,f6,f7,f8,f9⟩:=wT h
 omega
def ux (k_:ng→Rows→α) (n:Int) (x:Rows) (nZ:Int) (yg:Rows) (nD po pq pr pw:Int) (ov:Int→Int→Int→Int→Rows→Rows→α) (om pW pX pY:Int) (xz rF:Rows):α:=
 let z0:nE:=(pK (⟨pW,pX,pY,rF⟩:nE) (rR (nth x (Int.toNat om)) 2)).1
 bif decide (om<nZ) then
  bif DF true (idx om x) then
   bif DF true (Qc (⟨pW,pX,pY,rF⟩:nE) (rR (nth x (Int.toNat om)) 2)) then
    bif DF true (oT 8 xz ([[.int (rI (nth x (Int.toNat om)) 0)]])) then
     ov (nK (om+1)) z0.oR z0.nR z0.Count (xz++([[.int (rI (nth x (Int.toNat om)) 0)]])) z0.py
    else jK
   else jK
  else jK
 else bif DF (DF true (okL yg n)) (uf (zE yg n)) then
   k_ (⟨(⟨nD,po,pq,pr⟩:ny),(⟨pW,pX,pY,rF⟩:nE),oQ (zE yg n),pw⟩:ng) xz
  else jK
def rK (k_:ng→Rows→α) (N:Nat) (n:Int) (x:Rows) (nZ:Int) (yg:Rows) (nD po pq pr pw:Int) (m_:Nat):Int→Int→Int→Int→Rows→Rows→α:=
 Nat.rec (motive:=fun _=>Int→Int→Int→Int→Rows→Rows→α) (fun _ _ _ _ _ _=>jK) (fun _ ov=>ux jK k_ n x nZ yg nD po pq pr pw ov) m_
theorem NF (k_:ng→Rows→α) (N:Nat) (n:Int) (x:Rows) (nZ:Int) (yg:Rows) (nD po pq pr pw:Int) (m_:Nat):rK jK k_ N n x nZ yg nD po pq pr pw (m_+1)=ux jK k_ n x nZ yg nD po pq pr pw (rK jK k_ N n x nZ yg nD po pq pr pw m_):=rfl
def xF (k_:ng→Rows→α) (l0:Rows→Int→Rows→Int→Int→Int→Int→Int→Int→Int→Int→Int→Rows→Rows→α) (q:ng) (n:Int):α:=
 bif DF true (nbP q) then
  bif KW (!(To q)) (DF true (NX q)) (DF true (NX q)) then
   bif bif !(To q) then true else !(nf n 0 (len q.ni)) then k_ (oQ q) []
   else bif DF true (okH q.ni n) then
     l0 (Rv q.ni n) (len (Rv q.ni n)) q.ni (((oQ q).Ring).oR) (((oQ q).Ring).nR) (((oQ q).Ring).Head) (((oQ q).Ring).pV) ((oQ q).Next) 0 (((oQ q).n7).oR) (((oQ q).n7).nR) (((oQ q).n7).Count) [] (((oQ q).n7).py)
    else jK
  else jK
 else jK
def Qo (k_:ng→Rows→α) (N:Nat) (q:ng) (n:Int):α:=xF jK k_ (fun x nZ yg nD po pq pr pw=>rK jK k_ N n x nZ yg nD po pq pr pw N) q n
def cpF (q:ng) (i:Nat) (s:nE×Rows):nE×Rows:=((pK s.1 (rR (nth q.ni i) 2)).1,s.2++[[.int (rI (nth q.ni i) 0)]])
def qf (q:ng) (n:Int):Bool:=nbP q && NX q
def oS (q:ng) (n:Int):ng×Rows:=bif bif !(To q) then true else !(nf n 0 (len q.ni)) then (q,[])
 else (⟨q.Ring,(itN (cpF q) n.toNat 0 (q.n7,[])).1,q.ni.drop n.toNat,q.Next⟩,(itN (cpF q) n.toNat 0 (q.n7,[])).2)
theorem nbj (k_:ng→Rows→α) (q:ng) (n:Int) (aF:qf q n=true):∃N,Qo jK k_ N q n=k_ (oS q n).1 (oS q n).2:=by
 have GW:=aF
 simp only[qf,Bool.and_eq_true] at GW
 obtain⟨s1,s2⟩:=GW
 have s1':=s1
 simp only[nbP,uf,Bool.and_eq_true,List.all_eq_true] at s1'
 have s2':=s2
 simp only[NX,Bool.and_eq_true,decide_eq_true_eq] at s2'
 have hwl:=t_ s1'.2.1
 unfold Qo xF oS
 refine⟨q.ni.length+1, ?_⟩
 refine pn (tJ s1) ?_
 refine pn (by simp only[s2,nc,zx]) ?_
 refine pj (K:=fun z:ng×Rows=>k_ z.1 z.2) (fun _=>rfl) (fun hg=> ?_)
 have hn:0≤n∧n≤len q.ni:=by
  revert hg
  cases To q
  ·intro h;cases h
  ·intro h
   exact n0.1 (noZ h)
 simp only[len] at hn
 obtain⟨c,rfl⟩:∃c:Nat,n=(c:Int):=⟨n.toNat,by omega⟩
 have hH:Rv q.ni (c:Int)=q.ni.take c:=by simp [Rv]
 have hL:len (q.ni.take c)=(c:Int):=by simp only[len,List.length_take];omega
 have gH:okH q.ni (c:Int)=true:=by simp only[okH,Bool.and_eq_true,decide_eq_true_eq];omega
 refine pn (tJ gH) ?_
 refine (yq c (fun N i (s:nE×Rows)=>rK jK k_ (q.ni.length+1) (c:Int) (Rv q.ni (c:Int)) (len (Rv q.ni (c:Int))) q.ni q.Ring.oR q.Ring.nR q.Ring.Head q.Ring.pV q.Next N i s.1.oR s.1.nR s.1.Count s.2 s.1.py) (cpF q) (fun s=>k_ (⟨q.Ring,s.1,q.ni.drop c,q.Next⟩:ng) s.2)
  (fun i s=>s.2.length≤i∧s.1.py.length+nd6 (q.ni.drop i)≤q.n7.py.length+nd6 q.ni) ?_ ?_ ?_ (q.ni.length+1) (q.n7,[]) ⟨Nat.zero_le _,by simp⟩ (by omega)).trans ?_
 ·intro i s hi hs
  have hb:=zH (show i<q.ni.length by omega)
  refine⟨?_, ?_⟩
  ·simp only[cpF,List.length_append,List.length_cons,List.length_nil];omega
  ·simp only[cpF]
   have hgb:(pK s.1 (rR (nth q.ni i) 2)).1.py.length≤s.1.py.length+(rR (nth q.ni i) 2).length:=by
    unfold pK
    cases (bif !(sg s.1) then true else !(sg (⟨s.1.oR,s.1.nR,s.1.Count,s.1.py++rR (nth q.ni i) 2⟩:nE)))
    ·simp only[cond_false,List.length_append];omega
    ·simp only[cond_true];omega
   omega
 ·intro N i s hi hs
  have hb:=zH (show i<q.ni.length by omega)
  have FY:i<q.ni.length:=by omega
  have hgs:Qc (⟨s.1.oR,s.1.nR,s.1.Count,s.1.py⟩:nE) (rR (nth q.ni i) 2)=true:=by
   simp only[Qc,Bool.and_eq_true,decide_eq_true_eq]
   exact⟨decide_eq_true (by omega),by omega⟩
  have dV:∀y:List DC,oT 8 s.2 [y]=true:=fun y=>qY (by simp only[List.length_cons,List.length_nil];omega) (by omega)
  have w1:nK ((i:Int)+1)=(i:Int)+1:=nF (by omega) (by omega)
  show rK jK k_ (q.ni.length+1) (c:Int) (Rv q.ni (c:Int)) (len (Rv q.ni (c:Int))) q.ni q.Ring.oR q.Ring.nR q.Ring.Head q.Ring.pV q.Next (N+1) (i:Int) s.1.oR s.1.nR s.1.Count s.2 s.1.py=_
  rw[NF]
  have hix:idx (i:Int) (Rv q.ni (c:Int))=true:=by rw[hH];exact nT (by rw[List.length_take];omega)
  have F5:nth (Rv q.ni (c:Int)) i=nth q.ni i:=by
   rw[hH]
   simp only[nth,List.getD_eq_getElem?_getD]
   rw[List.getElem?_take_of_lt hi]
  have cd:decide ((i:Int)<len (Rv q.ni (c:Int)))=true:=decide_eq_true (by rw[hH,hL];omega)
  simp only[ux,cd,hix,hgs,dV,w1,F5,Int.toNat_natCast,nc,cond_true]
  rfl
 ·intro N s hs
  show rK jK k_ (q.ni.length+1) (c:Int) (Rv q.ni (c:Int)) (len (Rv q.ni (c:Int))) q.ni q.Ring.oR q.Ring.nR q.Ring.Head q.Ring.pV q.Next (N+1) (c:Int) s.1.oR s.1.nR s.1.Count s.2 s.1.py=_
  rw[NF]
  have g1:okL q.ni (c:Int)=true:=by simp only[okL,Bool.and_eq_true,decide_eq_true_eq];omega
  have e1:zE q.ni (c:Int)=q.ni.drop c:=by simp [zE]
  have cd:decide ((c:Int)<len (Rv q.ni (c:Int)))=false:=decide_eq_false (by rw[hH,hL];omega)
  have hsd:uf (q.ni.drop c)=true:=by
   simp only[uf,Bool.and_eq_true,List.all_eq_true]
   exact⟨decide_eq_true (by rw[List.length_drop];omega),fun r hr=>s1'.2.2 r (List.mem_of_mem_drop hr)⟩
  simp only[ux,cd,g1,e1,hsd,nc,cond_true,cond_false]
  rfl
 ·rfl
def uC (k_:ng→Rows→α) (n:Int) (yg:Rows) (nD po pq pr pw:Int) (wX:Rows) (ov:Int→Int→Int→Int→Rows→Rows→α) (k pW pX pY:Int) (xz rF:Rows):α:=
 let z0:nE:=(pK (⟨pW,pX,pY,rF⟩:nE) (rR (nth yg (Int.toNat k)) 2)).1
 bif decide (k<n) then
  bif DF (DF true (idx k yg)) (oT 8 xz ([[.int (rI (nth yg (Int.toNat k)) 0)]])) then
   bif DF (DF true (idx k yg)) (Qc (⟨pW,pX,pY,rF⟩:nE) (rR (nth yg (Int.toNat k)) 2)) then
    ov (nK (k+1)) z0.oR z0.nR z0.Count (xz++([[.int (rI (nth yg (Int.toNat k)) 0)]])) z0.py
   else jK
  else jK
 else bif DF true (okL wX n) then
   k_ (⟨(⟨nD,po,pq,pr⟩:ny),(⟨pW,pX,pY,rF⟩:nE),zE wX n,pw⟩:ng) xz
  else jK
def rL (k_:ng→Rows→α) (N:Nat) (n:Int) (yg:Rows) (nD po pq pr pw:Int) (wX:Rows) (m_:Nat):Int→Int→Int→Int→Rows→Rows→α:=
 Nat.rec (motive:=fun _=>Int→Int→Int→Int→Rows→Rows→α) (fun _ _ _ _ _ _=>jK) (fun _ ov=>uC jK k_ n yg nD po pq pr pw wX ov) m_
theorem NG (k_:ng→Rows→α) (N:Nat) (n:Int) (yg:Rows) (nD po pq pr pw:Int) (wX:Rows) (m_:Nat):rL jK k_ N n yg nD po pq pr pw wX (m_+1)=uC jK k_ n yg nD po pq pr pw wX (rL jK k_ N n yg nD po pq pr pw wX m_):=rfl
def xY (k_:ng→Rows→α) (l0:Rows→Int→Int→Int→Int→Int→Rows→Int→Int→Int→Int→Rows→Rows→α) (q:ng) (n:Int):α:=
 bif DF true (nbP q) then
  bif KW (!(To q)) (DF true (NX q)) (DF true (NX q)) then
   bif bif !(To q) then true else !(nf n 0 (len q.ni)) then k_ (oQ q) []
   else l0 q.ni (((oQ q).Ring).oR) (((oQ q).Ring).nR) (((oQ q).Ring).Head) (((oQ q).Ring).pV) ((oQ q).Next) ((oQ q).ni) 0 (((oQ q).n7).oR) (((oQ q).n7).nR) (((oQ q).n7).Count) [] (((oQ q).n7).py)
  else jK
 else jK
def Rd (k_:ng→Rows→α) (N:Nat) (q:ng) (n:Int):α:=xY jK k_ (fun yg nD po pq pr pw wX=>rL jK k_ N n yg nD po pq pr pw wX N) q n
theorem nbG (k_:ng→Rows→α) (q:ng) (n:Int) (aF:qf q n=true):∃N,Rd jK k_ N q n=k_ (oS q n).1 (oS q n).2:=by
 have GW:=aF
 simp only[qf,Bool.and_eq_true] at GW
 obtain⟨s1,s2⟩:=GW
 have s1':=s1
 simp only[nbP,uf,Bool.and_eq_true,List.all_eq_true] at s1'
 have s2':=s2
 simp only[NX,Bool.and_eq_true,decide_eq_true_eq] at s2'
 have hwl:=t_ s1'.2.1
 unfold Rd xY oS
 refine⟨q.ni.length+1, ?_⟩
 refine pn (tJ s1) ?_
 refine pn (by simp only[s2,nc,zx]) ?_
 refine pj (K:=fun z:ng×Rows=>k_ z.1 z.2) (fun _=>rfl) (fun hg=> ?_)
 have hn:0≤n∧n≤len q.ni:=by
  revert hg
  cases To q
  ·intro h;cases h
  ·intro h
   exact n0.1 (noZ h)
 simp only[len] at hn
 obtain⟨c,rfl⟩:∃c:Nat,n=(c:Int):=⟨n.toNat,by omega⟩
 refine (yq c (fun N i (s:nE×Rows)=>rL jK k_ (q.ni.length+1) (c:Int) q.ni q.Ring.oR q.Ring.nR q.Ring.Head q.Ring.pV q.Next q.ni N i s.1.oR s.1.nR s.1.Count s.2 s.1.py) (cpF q) (fun s=>k_ (⟨q.Ring,s.1,q.ni.drop c,q.Next⟩:ng) s.2)
  (fun i s=>s.2.length≤i∧s.1.py.length+nd6 (q.ni.drop i)≤q.n7.py.length+nd6 q.ni) ?_ ?_ ?_ (q.ni.length+1) (q.n7,[]) ⟨Nat.zero_le _,by simp⟩ (by omega)).trans ?_
 ·intro i s hi hs
  have hb:=zH (show i<q.ni.length by omega)
  refine⟨?_, ?_⟩
  ·simp only[cpF,List.length_append,List.length_cons,List.length_nil];omega
  ·simp only[cpF]
   have hgb:(pK s.1 (rR (nth q.ni i) 2)).1.py.length≤s.1.py.length+(rR (nth q.ni i) 2).length:=by
    unfold pK
    cases (bif !(sg s.1) then true else !(sg (⟨s.1.oR,s.1.nR,s.1.Count,s.1.py++rR (nth q.ni i) 2⟩:nE)))
    ·simp only[cond_false,List.length_append];omega
    ·simp only[cond_true];omega
   omega
 ·intro N i s hi hs
  have hb:=zH (show i<q.ni.length by omega)
  have FY:i<q.ni.length:=by omega
  have hgs:Qc (⟨s.1.oR,s.1.nR,s.1.Count,s.1.py⟩:nE) (rR (nth q.ni i) 2)=true:=by
   simp only[Qc,Bool.and_eq_true,decide_eq_true_eq]
   exact⟨decide_eq_true (by omega),by omega⟩
  have dV:∀y:List DC,oT 8 s.2 [y]=true:=fun y=>qY (by simp only[List.length_cons,List.length_nil];omega) (by omega)
  have w1:nK ((i:Int)+1)=(i:Int)+1:=nF (by omega) (by omega)
  show rL jK k_ (q.ni.length+1) (c:Int) q.ni q.Ring.oR q.Ring.nR q.Ring.Head q.Ring.pV q.Next q.ni (N+1) (i:Int) s.1.oR s.1.nR s.1.Count s.2 s.1.py=_
  rw[NG]
  have cd:decide ((i:Int)<(c:Int))=true:=decide_eq_true (by omega)
  simp only[uC,cd,nT FY,hgs,dV,w1,Int.toNat_natCast,nc,cond_true]
  rfl
 ·intro N s hs
  show rL jK k_ (q.ni.length+1) (c:Int) q.ni q.Ring.oR q.Ring.nR q.Ring.Head q.Ring.pV q.Next q.ni (N+1) (c:Int) s.1.oR s.1.nR s.1.Count s.2 s.1.py=_
  rw[NG]
  have g1:okL q.ni (c:Int)=true:=by simp only[okL,Bool.and_eq_true,decide_eq_true_eq];omega
  have e1:zE q.ni (c:Int)=q.ni.drop c:=by simp [zE]
  have cd:decide ((c:Int)<(c:Int))=false:=decide_eq_false (by omega)
  simp only[uC,cd,g1,e1,nc,cond_true,cond_false]
 ·rfl
def Uj (k_:nx→α) (h:nx):α:=
 let z0:ny×Rows×Int×Int:=qs h.Maps h.oB 0 h.Tx.Ring
 let z1:ng:=(⟨z0.1,((oQ h).Tx).n7,((oQ h).Tx).ni,((oQ h).Tx).Next⟩:ng)
 let z2:Int:=ue (nK (z0.2.2.1+z0.2.2.2)) (len h.Tx.ni)
 let z3:ng×Rows:=oS z1 z2
 let z4:Rows:=z3.2
 bif DF true (uR h) then
  bif DF true (Vp h) then
   bif !(nbc h) then k_ (oQ h)
   else bif DF true (oT 16 ((oQ h).vN) z0.2.1) then
     bif DF true (qf z1 z2) then
      bif DF true (oT 8 ((oQ h).oP) z4) then
       k_ (⟨(oQ h).oB,(oQ h).Maps,z3.1,(oQ h).Rx,(oQ h).oA,(oQ h).ou,(oQ h).pk,(oQ h).Filter,(oQ h).nA,(oQ h).p6,(oQ h).sF,((oQ h).vN)++z0.2.1,((oQ h).oP)++z4,(oQ h).pU,(oQ h).Counters⟩:nx)
      else jK
     else jK
    else jK
  else jK
 else jK
theorem nxF (q:ng):∀(m i:Nat) (s:nE×Rows),(itN (cpF q) m i s).2.length=s.2.length+m∧(itN (cpF q) m i s).1.py.length≤s.1.py.length+nd6 (q.ni.drop i)∨q.ni.length<i+m
 | 0,i,s=> .inl ⟨rfl,Nat.le_add_right _ _⟩
 | m+1,i,s=>by
  by_cases hi:i<q.ni.length
  ·rcases nxF q m (i+1) (cpF q i s) with h | h
   ·refine .inl ?_
    have hb:=zH hi
    have hgb:(pK s.1 (rR (nth q.ni i) 2)).1.py.length≤s.1.py.length+(rR (nth q.ni i) 2).length:=by
     unfold pK
     cases (bif !(sg s.1) then true else !(sg (⟨s.1.oR,s.1.nR,s.1.Count,s.1.py++rR (nth q.ni i) 2⟩:nE)))
     ·simp only[cond_false,List.length_append];omega
     ·simp only[cond_true];omega
    simp only[cpF,List.length_append,List.length_cons,List.length_nil] at h
    simp only[itN,cpF]
    exact⟨by omega,by omega⟩
   ·exact .inr (by omega)
  ·exact .inr (by omega)
theorem T9 (q:ng) (n:Int):(oS q n).2.length≤q.ni.length∧(oS q n).1.n7.py.length≤q.n7.py.length+nd6 q.ni∧∃c,(oS q n).1.ni=q.ni.drop c:=by
 unfold oS
 cases hg:(bif !(To q) then true else !(nf n 0 (len q.ni)))
 ·have hn:0≤n∧n≤len q.ni:=by
   revert hg
   cases To q
   ·intro h;cases h
   ·intro h
    exact n0.1 (noZ h)
  simp only[len] at hn
  rcases nxF q n.toNat 0 (q.n7,[]) with h | h
  ·simp only[List.drop_zero,List.length_nil] at h
   simp only[cond_false]
   exact⟨by omega,h.2,n.toNat,rfl⟩
  ·omega
 ·exact⟨Nat.zero_le _,Nat.le_add_right _ _,0,rfl⟩
theorem T_ (q:ng) (n:Int):(oS q n).2.length≤q.ni.length:=(T9 q n).1
def htA (h:nx):ny×Rows×Int×Int:=qs h.Maps h.oB 0 h.Tx.Ring
def htC (h:nx):ng×Rows:=oS (⟨(htA h).1,h.Tx.n7,h.Tx.ni,h.Tx.Next⟩:ng) (ue (nK ((htA h).2.2.1+(htA h).2.2.2)) (len h.Tx.ni))
def tv (h:nx):Bool:=uR h && Vp h
def nY (h:nx):nx:=bif !(nbc h) then h
 else ⟨h.oB,h.Maps,(htC h).1,h.Rx,h.oA,h.ou,h.pk,h.Filter,h.nA,h.p6,h.sF,h.vN++(htA h).2.1,h.oP++(htC h).2,h.pU,h.Counters⟩
theorem npa {h:nx} (hs:uR h=true) (hb:Vp h=true) (hw:h.Tx.ni.length≤1048576) (hW:h.vN.length≤1048576) (hC:h.oP.length≤1048576):uR (nY h)=true:=by
 unfold nY
 cases nbc h
 ·exact hs
 ·simp only[uR,Bool.and_eq_true] at hs
  obtain⟨t0,t1,t2,t3,t4,t5,t6,t7,t8,t9,t10,t11,t12,t13,t14,t15⟩:=hs
  have l1:(htA h).2.1.length≤13200:=Tn h.Maps h.oB 0 h.Tx.Ring
  have k:=T9 (⟨(htA h).1,h.Tx.n7,h.Tx.ni,h.Tx.Next⟩:ng) (ue (nK ((htA h).2.2.1+(htA h).2.2.2)) (len h.Tx.ni))
  obtain⟨k1,k2,c,k3⟩:=k
  have ax:=hb
  simp only[Vp,NX,Bool.and_eq_true,decide_eq_true_eq] at ax
  simp only[uf,Bool.and_eq_true,List.all_eq_true] at t3
  simp only[Bool.not_true,cond_false,uR,Bool.and_eq_true]
  refine⟨t0,t1,decide_eq_true ?_, ?_,t4,t5,t6,t7,t8,t9,t10,t11,t12,decide_eq_true ?_,decide_eq_true ?_,t15⟩
  ·exact Nat.le_trans k2 (by show h.Tx.n7.py.length+nd6 h.Tx.ni≤_;omega)
  ·show uf (oS _ _).1.ni=true
   rw[k3]
   simp only[uf,Bool.and_eq_true,List.all_eq_true]
   exact⟨decide_eq_true (by rw[List.length_drop];show h.Tx.ni.length - c≤_;omega),fun r hr=>t3.2 r (List.mem_of_mem_drop hr)⟩
  ·rw[List.length_append];omega
  ·rw[List.length_append]
   have:(htC h).2.length≤h.Tx.ni.length:=k1
   omega
theorem ng8 (k_:nx→α) (h:nx) (aF:tv h=true):Uj jK k_ h=k_ (nY h):=by
 have GW:(uR h && Vp h)=true:=aF
 simp only[Bool.and_eq_true] at GW
 obtain⟨s,b⟩:=GW
 have s':=s
 simp only[uR,Bool.and_eq_true] at s'
 obtain⟨t0,t1,t2,t3,_,_,_,_,_,_,_,_,_,t13,t14,_⟩:=s'
 have hco:∀(r:ny) (n:Int),qf (⟨r,h.Tx.n7,h.Tx.ni,h.Tx.Next⟩:ng) n=true:=by
  intro r n
  simp only[qf,nbP,Bool.and_eq_true]
  exact⟨⟨t2,t3⟩,b⟩
 have l1:=Tn h.Maps h.oB 0 h.Tx.Ring
 have hr1:oT 16 h.vN (qs h.Maps h.oB 0 h.Tx.Ring).2.1=true:=qY (by have:=t_ t13;omega) (by omega)
 have hr2:∀(r:ny) (n:Int),oT 8 h.oP (oS (⟨r,h.Tx.n7,h.Tx.ni,h.Tx.Next⟩:ng) n).2=true:=by
  intro r n
  have k1:(oS (⟨r,h.Tx.n7,h.Tx.ni,h.Tx.Next⟩:ng) n).2.length≤h.Tx.ni.length:=T_ _ n
  have k2:=t_ t14
  simp only[uf,Bool.and_eq_true] at t3
  have k3:=t_ t3.1
  exact qY (by omega) (by omega)
 unfold Uj nY
 dsimp only
 refine pn (tJ s) ?_
 refine pn (tJ b) ?_
 refine pj (K:=fun z:nx=>k_ z) (fun _=>rfl) (fun _=> ?_)
 refine pn (tJ hr1) (pn (tJ (hco _ _)) (pn (tJ (hr2 _ _)) rfl))
def UX (k_:nx→α) (h:nx):α:=
 let z0:ny×Rows×Int×Int:=qs h.Maps h.oB 0 h.Tx.Ring
 let z1:ng:=(⟨z0.1,((oQ h).Tx).n7,((oQ h).Tx).ni,((oQ h).Tx).Next⟩:ng)
 let z2:Int:=ue (nK (z0.2.2.1+z0.2.2.2)) (len (((oQ h).Tx).ni))
 let z3:ng×Rows:=oS z1 z2
 let z4:Rows:=z3.2
 bif DF true (uR h) then
  bif DF true (Vp h) then
   bif !(nbc h) then k_ (oQ h)
   else bif DF true (oT 16 ((oQ h).vN) z0.2.1) then
     bif DF true (qf z1 z2) then
      bif DF true (oT 8 ((oQ h).oP) z4) then
       k_ (⟨(oQ h).oB,(oQ h).Maps,z3.1,(oQ h).Rx,(oQ h).oA,(oQ h).ou,(oQ h).pk,(oQ h).Filter,(oQ h).nA,(oQ h).p6,(oQ h).sF,((oQ h).vN)++z0.2.1,((oQ h).oP)++z4,(oQ h).pU,(oQ h).Counters⟩:nx)
      else jK
     else jK
    else jK
  else jK
 else jK
theorem nhJ (k_:nx→α) (h:nx) (aF:tv h=true):UX jK k_ h=k_ (nY h):=by
 have GW:(uR h && Vp h)=true:=aF
 simp only[Bool.and_eq_true] at GW
 obtain⟨s,b⟩:=GW
 have s':=s
 simp only[uR,Bool.and_eq_true] at s'
 obtain⟨t0,t1,t2,t3,_,_,_,_,_,_,_,_,_,t13,t14,_⟩:=s'
 have hco:∀(r:ny) (n:Int),qf (⟨r,h.Tx.n7,h.Tx.ni,h.Tx.Next⟩:ng) n=true:=by
  intro r n
  simp only[qf,nbP,Bool.and_eq_true]
  exact⟨⟨t2,t3⟩,b⟩
 have l1:=Tn h.Maps h.oB 0 h.Tx.Ring
 have hr1:oT 16 h.vN (qs h.Maps h.oB 0 h.Tx.Ring).2.1=true:=qY (by have:=t_ t13;omega) (by omega)
 have hr2:∀(r:ny) (n:Int),oT 8 h.oP (oS (⟨r,h.Tx.n7,h.Tx.ni,h.Tx.Next⟩:ng) n).2=true:=by
  intro r n
  have k1:(oS (⟨r,h.Tx.n7,h.Tx.ni,h.Tx.Next⟩:ng) n).2.length≤h.Tx.ni.length:=T_ _ n
  have k2:=t_ t14
  simp only[uf,Bool.and_eq_true] at t3
  have k3:=t_ t3.1
  exact qY (by omega) (by omega)
 unfold UX nY
 dsimp only
 refine pn (tJ s) ?_
 refine pn (tJ b) ?_
 refine pj (K:=fun z:nx=>k_ z) (fun _=>rfl) (fun _=> ?_)
 refine pn (tJ hr1) (pn (tJ (hco _ _)) (pn (tJ (hr2 _ _)) rfl))
def zs (k_:Bool→α) (aH:nx):α:=
 let z0:Bool:=DF (DF true (te aH)) (tv (oQ aH))
 let z1:Bool:=DF true (same (nY (oQ aH)) (nY (oQ aH)))
 let z2:Bool:= !(px (nY (oQ aH)) (nY (oQ aH)))
 let z3:Bool:=decide ((oL (oQ aH) 1).1<0)
 let z4:nx:=(⟨(⟨(oL (nY (oQ aH)) 1).2.1⟩:nd),(oL (nY (oQ aH)) 1).2.2.1,(⟨((nY (oQ aH)).Tx).Ring,(⟨(((nY (oQ aH)).Tx).n7).oR,(((nY (oQ aH)).Tx).n7).nR,(((nY (oQ aH)).Tx).n7).Count,(oL (nY (oQ aH)) 1).2.2.2.1⟩:nE),(oL (nY (oQ aH)) 1).2.2.2.2.1,((nY (oQ aH)).Tx).Next⟩:ng),(oL (nY (oQ aH)) 1).2.2.2.2.2.1,(oL (nY (oQ aH)) 1).2.2.2.2.2.2.1,(oL (nY (oQ aH)) 1).2.2.2.2.2.2.2.1,(oL (nY (oQ aH)) 1).2.2.2.2.2.2.2.2.1,(⟨((nY (oQ aH)).Filter).Mac,((nY (oQ aH)).Filter).ql,(oL (nY (oQ aH)) 1).2.2.2.2.2.2.2.2.2.1⟩:nH),(⟨(oL (nY (oQ aH)) 1).2.2.2.2.2.2.2.2.2.2.1,(⟨(oL (nY (oQ aH)) 1).2.2.2.2.2.2.2.2.2.2.2.1⟩:nh),(⟨(((nY (oQ aH)).nA).oO).Key,(oL (nY (oQ aH)) 1).2.2.2.2.2.2.2.2.2.2.2.2.1⟩:nJ)⟩:nj),(oL (nY (oQ aH)) 1).2.2.2.2.2.2.2.2.2.2.2.2.2.1,(nY (oQ aH)).sF,(oL (nY (oQ aH)) 1).2.2.2.2.2.2.2.2.2.2.2.2.2.2.1,(oL (nY (oQ aH)) 1).2.2.2.2.2.2.2.2.2.2.2.2.2.2.2.1,(oL (nY (oQ aH)) 1).2.2.2.2.2.2.2.2.2.2.2.2.2.2.2.2,(nY (oQ aH)).Counters⟩:nx)
 let z5:Bool:=DF true (PI z4 1)
 let z6:Int:=Zh z4 1
 let z7:Bool:=decide (z6<0)
 let z8:Bool:=z6 != ((oL (nY (oQ aH)) 1).1)
 bif decide (ur aH 1048576<0) then k_ true
 else bif z0 then
   bif DF true (te aH) then
    bif DF true (tv (oQ aH)) then
     bif z1 then
      bif z2 then k_ false
      else bif DF (DF true (te aH)) (same (oQ aH) (oQ aH)) then
        bif !(px (oQ aH) (oQ aH)) then k_ false
        else bif DF true (zt (oQ aH) 1) then
          bif KW z3 true z1 then
           bif bif z3 then true else z2 then k_ false
           else bif DF true (zt (nY (oQ aH)) 1) then
             bif z5 then
              bif z7 then k_ false
              else bif z8 then k_ false
              else bif z0 then
                bif z1 then
                 bif z2 then k_ false
                 else bif z5 then
                   bif z7 then k_ false
                   else bif z8 then k_ false
                   else k_ true
                  else jK
                else jK
               else jK
             else jK
            else jK
          else jK
         else jK
       else jK
     else jK
    else jK
   else jK
  else jK
theorem VU (k_:Bool→α) (aH:nx) (nyE:jI nx.ct aH.enc) (aF:Xl (nx.ct++([])) (aH.enc++([]))=true):zs jK k_ aH=k_ true:=by
 unfold zs
 by_cases c0:ur aH 1048576<0
 ·simp only[c0,decide_true,decide_false,cond_true,cond_false]
 have k0:=nsR nyE (by omega) (by omega) (Int.not_lt.1 c0)
 have hs:=nyd k0.2
 have hb:=nx6 nyE (by omega) (by omega) (Int.not_lt.1 c0)
 obtain⟨_,nw,_,_,_,_,_,nW,nC,_⟩:=nqt nyE (by omega) (by omega) (Int.not_lt.1 c0)
 have ht:tv aH=true:=by simp only[tv,hs,hb,Bool.and_self]
 have hs2:uR (nY aH)=true:=npa hs hb nw nW nC
 obtain⟨K,P0,P1,P2,P3,P4,P5,P6,P7,P8,P9,P10,P11,P12,P13,P14,P15,mh0,mh1,mh2,_,_⟩:=nxO hs
 obtain⟨J,Q0,Q1,Q2,Q3,Q4,Q5,Q6,Q7,Q8,Q9,Q10,Q11,Q12,Q13,Q14,Q15,nh0,nh1,nh2,nh3,nh4⟩:=nxO hs2
 have mh3:¬K<0:=by omega
 have nh5:¬J<0:=by omega
 simp only[c0,decide_false,cond_false,cond_true,oQ,k0.2,ht,mh0,mh1,mh3,nh0,nh1,nh3,nh4,nh5,nc,nn,pP,px,beq_self_eq_true,bne_self_eq_false,Bool.not_true,zx]
end
end Go.Proofs.YtngbcccnjiaddaaGreat.Pl
