/- Plain forms. Conditions: as each says. -/
import Derived.Test.YtngbcccnjiaddaaGreatP0
import Derived.Test.YtngbcccnjiaddaaGreatBit
import Derived.Test.YtngbcccnjiaddaaGreatDp
set_option linter.unusedVariables false
set_option linter.unusedSimpArgs false
set_option maxRecDepth 100000
namespace Go.Proofs.YtngbcccnjiaddaaGreat.Pl
open Vm
noncomputable section
variable {α:Type} (ke:α)
structure wF where
 Tos:Int
 Id:Int
 Ttl:Int
 njE:Int
 Src:Int
 T6:Int
 Body:Bytes
def wF.enc (x:wF):List DC:=[.int x.Tos,.int x.Id,.int x.Ttl,.int x.njE,.int x.Src,.int x.T6,.str x.Body]
def wF.nd (r:List DC) (o:Nat):wF:=⟨rI r (o+0),rI r (o+1),rI r (o+2),rI r (o+3),rI r (o+4),rI r (o+5),rS r (o+6)⟩
def wF.ct:List CT:=[.i,.i,.i,.i,.i,.i,.str]
theorem wF.eta {r:List DC} (h:kc wF.ct r):(wF.nd r 0).enc=r:=(show (wF.nd r 0).enc=su wF.ct r 0 from by kernel_rfl).trans (qV h)
theorem wF.nA {r:List CT} {ds:List DC} (h:kc (wF.ct++r) ds):∃(x:wF) (aZ:List DC),ds=x.enc++aZ∧kc wF.ct x.enc∧kc r aZ:=by
 obtain⟨d1,d2,rfl,h1,h2⟩:=qk h
 exact⟨wF.nd d1 0,d2,by rw[wF.eta h1],by rw[wF.eta h1];exact h1,h2⟩
theorem wF.nCV {x:wF} (h:kc wF.ct x.enc):G1 .i (.int x.Tos):=oz 0 h rfl rfl
theorem wF.nC3 {x:wF} (h:kc wF.ct x.enc):G1 .i (.int x.Id):=oz 1 h rfl rfl
theorem wF.nCW {x:wF} (h:kc wF.ct x.enc):G1 .i (.int x.Ttl):=oz 2 h rfl rfl
theorem wF.nCU {x:wF} (h:kc wF.ct x.enc):G1 .i (.int x.Src):=oz 4 h rfl rfl
theorem wF.nCR {x:wF} (h:kc wF.ct x.enc):G1 .i (.int x.T6):=oz 5 h rfl rfl
theorem wF.nzp {x:wF} (h:kc wF.ct x.enc):G1 .str (.str x.Body):=oz 6 h rfl rfl
structure r_ where
 T6:Int
 Src:Int
 sQ:Int
 zI:Int
 Body:Bytes
def r_.enc (x:r_):List DC:=[.int x.T6,.int x.Src,.int x.sQ,.int x.zI,.str x.Body]
def r_.nd (r:List DC) (o:Nat):r_:=⟨rI r (o+0),rI r (o+1),rI r (o+2),rI r (o+3),rS r (o+4)⟩
def r_.ct:List CT:=[.i,.i,.i,.i,.str]
theorem r_.eta {r:List DC} (h:kc r_.ct r):(r_.nd r 0).enc=r:=(show (r_.nd r 0).enc=su r_.ct r 0 from by kernel_rfl).trans (qV h)
theorem r_.nA {r:List CT} {ds:List DC} (h:kc (r_.ct++r) ds):∃(x:r_) (aZ:List DC),ds=x.enc++aZ∧kc r_.ct x.enc∧kc r aZ:=by
 obtain⟨d1,d2,rfl,h1,h2⟩:=qk h
 exact⟨r_.nd d1 0,d2,by rw[r_.eta h1],by rw[r_.eta h1];exact h1,h2⟩
theorem r_.nCR {x:r_} (h:kc r_.ct x.enc):G1 .i (.int x.T6):=oz 0 h rfl rfl
theorem r_.nCU {x:r_} (h:kc r_.ct x.enc):G1 .i (.int x.Src):=oz 1 h rfl rfl
theorem r_.nA8 {x:r_} (h:kc r_.ct x.enc):G1 .i (.int x.sQ):=oz 2 h rfl rfl
theorem r_.nzp {x:r_} (h:kc r_.ct x.enc):G1 .str (.str x.Body):=oz 4 h rfl rfl
def xA {α:Type} (k_:Bytes→α) (v:Int):α:=
 bif !(nf v 0 65535) then k_ []
 else k_ (toStr ([[.int (IntKind.wrap .u8 (ndb .i64 v 8))],[.int (IntKind.wrap .u8 v)]]))
def nJ (v:Int):Bytes:=xA id v
theorem nwv {α:Type} (k_:Bytes→α) (v:Int):xA k_ v=k_ (nJ v):=by
 exact J5 rfl rfl
def nx6 {α:Type} (k_:Bytes→α) (v:Int):α:=
 bif !(nf v 0 65535) then k_ []
 else k_ (toStr ([[.int (IntKind.wrap .u8 (ndb .i64 v 8))],[.int (IntKind.wrap .u8 v)]]))
theorem nx5 {α:Type} (k_:Bytes→α) (v:Int):nx6 k_ v=k_ (nJ v):=by
 exact J5 rfl rfl
theorem pB (v:Int):(oJ v).length≤4:=by
 unfold oJ zT
 cases !(nf v 0 4294967295)<;>simp [toStr]
theorem nW (v:Int):(nJ v).length≤2:=by
 unfold nJ xA
 cases !(nf v 0 65535)<;>simp [toStr]
theorem nhv {v:Int} (h0:0≤v) (h1:v≤65535):(nJ v).length=2:=by
 have hb:nf v 0 65535=true:=nS.2 ⟨h0,h1⟩
 unfold nJ xA
 rw[hb]
 simp [toStr]
theorem nzw {v:Int} (h0:0≤v) (h1:v≤4294967295):(oJ v).length=4:=by
 have hb:nf v 0 4294967295=true:=nS.2 ⟨h0,h1⟩
 unfold oJ zT
 rw[hb]
 simp [toStr]
theorem XW {a b:Bytes} (h:a.length+b.length≤9223372036854775807):ou a b=true:=decide_eq_true h
theorem pO (r:Rows):(toStr r).length=r.length:=by simp [toStr]
theorem nA1 {q:nD} (h:sO q=true):q.Body.length≤320:=by
 unfold sO wm at h
 by_cases h3:320<len q.Body
 ·rw[decide_eq_true h3] at h
  revert h
  cases !(nf q.oN 0 65535)<;>cases !(nf q.oM 0 65535)<;>simp
 ·simp only[len] at h3
  omega
def ndn {α:Type} (k_:Int→α) (a b:Int):α:=
 bif bif !(nf a 0 65535) then true else !(nf b 0 65535) then k_ (-1)
 else bif decide (65535<nM (a+b)) then k_ (nM ((nM (a+b)) - 65535))
 else k_ (nM (a+b))
def nfz (a b:Int):Int:=ndn id a b
theorem ntf {α:Type} (k_:Int→α) (a b:Int):ndn k_ a b=k_ (nfz a b):=by
 exact J5 rfl (J5 rfl rfl)
def nu3 {α:Type} (k_:Int→α) (a b:Int):α:=
 bif bif !(nf a 0 65535) then true else !(nf b 0 65535) then k_ (-1)
 else bif decide (65535<nM (a+b)) then k_ (nM ((nM (a+b)) - 65535))
 else k_ (nM (a+b))
theorem nu1 {α:Type} (k_:Int→α) (a b:Int):nu3 k_ a b=k_ (nfz a b):=by
 exact J5 rfl (J5 rfl rfl)
def yX (k_:Int→α) (s:Bytes) (oD:Int→Int→α) (sum i:Int):α:=
 let z0:Bool:=decide (nM (i+1)<len s)
 let z1:Int:=nAK .i64 (nM (SR s i)) 8
 bif decide (i<len s) then
  bif Eb true (idx i s) then
   bif LV z0 (Eb true (idx (nM (i+1)) s)) true then
    oD (nfz sum (bif z0 then bits .or .i64 z1 (nM (SR s (nM (i+1)))) else z1)) (nM (i+2))
   else ke
  else ke
 else k_ sum
def yW (k_:Int→α) (N:Nat) (s:Bytes) (m_:Nat):Int→Int→α:=
 Nat.rec (motive:=fun _=>Int→Int→α) (fun _ _=>ke) (fun _ oD=>yX ke k_ s oD) m_
theorem Ux (k_:Int→α) (N:Nat) (s:Bytes) (m_:Nat):yW ke k_ N s (m_+1)=yX ke k_ s (yW ke k_ N s m_):=rfl
def Ss {α:Type} (ke:α) (k_:Int→α) (l0:Int→Int→α) (s:Bytes):α:=
 l0 0 0
def nbv (k_:Int→α) (N:Nat) (s:Bytes):α:=Ss ke k_ (yW ke k_ N s N) s
def swW (s:Bytes) (i:Nat):Int:=SR s (i:Int)*256+(bif decide (((i:Int)+1)<len s) then SR s ((i:Int)+1) else 0)
def swF (s:Bytes) (j:Nat) (c:Int):Int:=nfz c (swW s (2*j))
def ss (s:Bytes):Bool:=decide (s.length≤4294967296)
def nyf (s:Bytes):Int:=itN (swF s) ((s.length+1) / 2) 0 0
def Ud (s:Bytes):Int:=shut nyf s
theorem noK (s:Bytes):Ud s=itN (swF s) ((s.length+1) / 2) 0 0:=congrFun (nCj nyf) s
theorem npM (k_:Int→α) (s:Bytes) (RQ:G1 .str (.str s)) (aJ:ss s=true):∃N,nbv ke k_ N s=k_ (Ud s):=by
 have hl:=OC RQ
 refine⟨s.length+1, ?_⟩
 have HG:s.length≤4294967296:=of_decide_eq_true aJ
 rw[noK]
 unfold nbv Ss
 have key:∀(m n j:Nat) (c:Int),j+m=(s.length+1) / 2→m<n→yW ke k_ (s.length+1) s n c ((2*j:Nat):Int)=k_ (itN (swF s) m j c):=by
  intro m
  induction m with
  | zero=>
   intro n j c h1 h2
   obtain⟨n,rfl⟩:∃q,n=q+1:=⟨n - 1,by omega⟩
   have hf:decide (((2*j:Nat):Int)<len s)=false:=decide_eq_false (by simp only[len];omega)
   rw[Ux]
   simp only[yX,hf,cond_false,itN]
  | succ m ih=>
   intro n j c h1 h2
   obtain⟨n,rfl⟩:∃q,n=q+1:=⟨n - 1,by omega⟩
   have cn:2*j<s.length:=by omega
   have hw1:nM (((2*j:Nat):Int)+1)=((2*j:Nat):Int)+1:=nQ (by omega) (by omega)
   have hw2:nM (((2*j:Nat):Int)+2)=((2*(j+1):Nat):Int):=by rw[nQ (by omega) (by omega)];omega
   have aJ:LV (decide (((2*j:Nat):Int)+1<len s)) (idx (((2*j:Nat):Int)+1) s) true=true:=Z0 (fun h=>by
    have h:=of_decide_eq_true h
    simp only[len] at h
    simp only[idx,Bool.and_eq_true,decide_eq_true_eq]
    omega) (fun _=>rfl)
   have b0:=Yp s ((2*j:Nat):Int)
   have c0:=Yo s ((2*j:Nat):Int)
   have b1:=Yp s (((2*j:Nat):Int)+1)
   have c1:=Yo s (((2*j:Nat):Int)+1)
   have e0:nAK .i64 (SR s ((2*j:Nat):Int)) 8=SR s ((2*j:Nat):Int)*256:=by rw[nCi,nQ (by omega) (by omega)]
   have hv:(bif decide (((2*j:Nat):Int)+1<len s) then bits .or .i64 (SR s ((2*j:Nat):Int)*256) (SR s (((2*j:Nat):Int)+1)) else SR s ((2*j:Nat):Int)*256)=swW s (2*j):=by
    unfold swW
    cases decide (((2*j:Nat):Int)+1<len s)
    ·simp
    ·simp only[cond_true]
     rw[nAZ 8 (y:=SR s (((2*j:Nat):Int)+1)) (by omega) (by omega) (by omega) (by omega) (by omega) (by omega)]
   rw[Ux]
   simp only[yX,oL cn,nT cn,hw1,hw2,aJ,ng,cond_true,nQ (n:=SR s ((2*j:Nat):Int)) (by omega) (by omega),nQ (n:=SR s (((2*j:Nat):Int)+1)) (by omega) (by omega),e0,hv]
   exact ih n (j+1) _ (by omega) (by omega)
 exact key ((s.length+1) / 2) (s.length+1) 0 0 (by omega) (by omega)
def zs (k_:Int→α) (s:Bytes) (oD:Int→Int→α) (sum i:Int):α:=
 let z0:Bool:=decide (nM (i+1)<len s)
 let z1:Int:=nAK .i64 (nM (SR s i)) 8
 bif decide (i<len s) then
  bif Eb true (idx i s) then
   bif LV z0 (Eb true (idx (nM (i+1)) s)) true then
    oD (nfz sum (bif z0 then nM (z1+(nM (SR s (nM (i+1))))) else z1)) (nM (i+2))
   else ke
  else ke
 else k_ sum
def zr (k_:Int→α) (N:Nat) (s:Bytes) (m_:Nat):Int→Int→α:=
 Nat.rec (motive:=fun _=>Int→Int→α) (fun _ _=>ke) (fun _ oD=>zs ke k_ s oD) m_
theorem VZ (k_:Int→α) (N:Nat) (s:Bytes) (m_:Nat):zr ke k_ N s (m_+1)=zs ke k_ s (zr ke k_ N s m_):=rfl
def S9 {α:Type} (ke:α) (k_:Int→α) (l0:Int→Int→α) (s:Bytes):α:=
 l0 0 0
def ncV (k_:Int→α) (N:Nat) (s:Bytes):α:=S9 ke k_ (zr ke k_ N s N) s
theorem nst (k_:Int→α) (s:Bytes) (RQ:G1 .str (.str s)) (aJ:ss s=true):∃N,ncV ke k_ N s=k_ (Ud s):=by
 have hl:=OC RQ
 refine⟨s.length+1, ?_⟩
 have HG:s.length≤4294967296:=of_decide_eq_true aJ
 rw[noK]
 unfold ncV S9
 have key:∀(m n j:Nat) (c:Int),j+m=(s.length+1) / 2→m<n→zr ke k_ (s.length+1) s n c ((2*j:Nat):Int)=k_ (itN (swF s) m j c):=by
  intro m
  induction m with
  | zero=>
   intro n j c h1 h2
   obtain⟨n,rfl⟩:∃q,n=q+1:=⟨n - 1,by omega⟩
   have hf:decide (((2*j:Nat):Int)<len s)=false:=decide_eq_false (by simp only[len];omega)
   rw[VZ]
   simp only[zs,hf,cond_false,itN]
  | succ m ih=>
   intro n j c h1 h2
   obtain⟨n,rfl⟩:∃q,n=q+1:=⟨n - 1,by omega⟩
   have cn:2*j<s.length:=by omega
   have hw1:nM (((2*j:Nat):Int)+1)=((2*j:Nat):Int)+1:=nQ (by omega) (by omega)
   have hw2:nM (((2*j:Nat):Int)+2)=((2*(j+1):Nat):Int):=by rw[nQ (by omega) (by omega)];omega
   have aJ:LV (decide (((2*j:Nat):Int)+1<len s)) (idx (((2*j:Nat):Int)+1) s) true=true:=Z0 (fun h=>by
    have h:=of_decide_eq_true h
    simp only[len] at h
    simp only[idx,Bool.and_eq_true,decide_eq_true_eq]
    omega) (fun _=>rfl)
   have b0:=Yp s ((2*j:Nat):Int)
   have c0:=Yo s ((2*j:Nat):Int)
   have b1:=Yp s (((2*j:Nat):Int)+1)
   have c1:=Yo s (((2*j:Nat):Int)+1)
   have e0:nAK .i64 (SR s ((2*j:Nat):Int)) 8=SR s ((2*j:Nat):Int)*256:=by rw[nCi,nQ (by omega) (by omega)]
   have hv:(bif decide (((2*j:Nat):Int)+1<len s) then nM (SR s ((2*j:Nat):Int)*256+SR s (((2*j:Nat):Int)+1)) else SR s ((2*j:Nat):Int)*256)=swW s (2*j):=by
    unfold swW
    cases decide (((2*j:Nat):Int)+1<len s)
    ·simp
    ·simp only[cond_true]
     rw[nQ (by omega) (by omega)]
   rw[VZ]
   simp only[zs,oL cn,nT cn,hw1,hw2,aJ,ng,cond_true,nQ (n:=SR s ((2*j:Nat):Int)) (by omega) (by omega),nQ (n:=SR s (((2*j:Nat):Int)+1)) (by omega) (by omega),e0,hv]
   exact ih n (j+1) _ (by omega) (by omega)
 exact key ((s.length+1) / 2) (s.length+1) 0 0 (by omega) (by omega)
def na5 (k_:Int→α) (s:Bytes):α:=
 bif Eb true (ss s) then
  k_ (nM (65535 - (Ud s)))
 else ke
def xg (s:Bytes):Int:=nM (65535 - Ud s)
theorem npd (k_:Int→α) (s:Bytes) (aJ:ss s=true):na5 ke k_ s=k_ (xg s):=by
 have h:ss s=true:=aJ
 unfold na5 xg
 simp only[h,ng,cond_true]
def nco (k_:Int→α) (s:Bytes):α:=
 bif Eb true (ss s) then
  k_ (nM (65535 - (Ud s)))
 else ke
theorem nrV (k_:Int→α) (s:Bytes) (aJ:ss s=true):nco ke k_ s=k_ (xg s):=by
 have h:ss s=true:=aJ
 unfold nco xg
 simp only[h,ng,cond_true]
def Rr {α:Type} (k_:Bool→α) (s:Bytes) (at_ n:Int):α:=
 k_ (bif decide (0≤at_) then bif decide (at_≤len s) then decide (n≤nM ((len s) - at_)) else false else false)
def rq (s:Bytes) (at_ n:Int):Bool:=Rr id s at_ n
theorem nos {α:Type} (k_:Bool→α) (s:Bytes) (at_ n:Int):Rr k_ s at_ n=k_ (rq s at_ n):=by
 rfl
theorem within_iff {s:Bytes} {at_ n:Int} (hs:s.length≤9223372036854775807):rq s at_ n=true↔0≤at_∧at_≤len s∧at_+n≤len s:=by
 have hl0:0≤len s:=by simp [len]
 have GG:len s≤9223372036854775807:=by simp only[len];omega
 unfold rq Rr
 by_cases h1:0≤at_
 ·by_cases h2:at_≤len s
  ·rw[nQ (by omega) (by omega)]
   simp only[h1,h2,decide_true,cond_true,id,true_and]
   constructor
   ·intro h
    have:=of_decide_eq_true h
    omega
   ·intro h
    exact decide_eq_true (by omega)
  ·simp [h1,h2]
 ·simp [h1]
def nbl (k_:Bytes→α) (s:Bytes) (at_:Int) (part:Bytes):α:=
 let z0:Bytes:=zw s (nM (at_+(len part)))
 bif bif decide (at_<0) then true else decide (nM ((len s) - (len part))<at_) then k_ s
 else bif Eb (Eb (Eb (Eb true (okH s at_)) (ou (ym s at_) part)) (okL s (nM (at_+(len part))))) (ou ((ym s at_)++part) z0) then
   k_ (((ym s at_)++part)++z0)
  else ke
def oK (s:Bytes) (at_:Int) (part:Bytes):Bool:=decide (s.length≤4294967296) && decide (part.length≤4294967296)
def qY (s:Bytes) (at_:Int) (part:Bytes):Bytes:=bif !(rq s at_ (len part)) then s else s.take at_.toNat++part++s.drop (at_.toNat+part.length)
theorem sq {s:Bytes} {at_:Int} {part:Bytes} (hs:s.length≤9223372036854775807):(qY s at_ part).length=s.length:=by
 unfold qY
 cases hw:rq s at_ (len part)
 ·rfl
 ·have:=(within_iff hs).1 hw
  simp only[len] at this
  simp only[Bool.not_true,cond_false,List.length_append,List.length_take,List.length_drop]
  omega
theorem npB (k_:Bytes→α) (s:Bytes) (at_:Int) (part:Bytes) (aJ:oK s at_ part=true):nbl ke k_ s at_ part=k_ (qY s at_ part):=by
 simp only[oK,Bool.and_eq_true,decide_eq_true_eq] at aJ
 unfold nbl qY
 have nCJ:(bif decide (at_<0) then true else decide (nM (len s - len part)<at_))= !(rq s at_ (len part)):=by
  have h1:=within_iff (s:=s) (at_:=at_) (n:=len part) (by omega)
  rw[nQ (n:=len s - len part) (by simp only[len];omega) (by simp only[len];omega)]
  cases hw:rq s at_ (len part)
  ·by_cases h0:at_<0
   ·simp [h0]
   ·by_cases h2:len s - len part<at_
    ·simp [h0,h2]
    ·rw[h1.2 (by simp only[len] at h2 ⊢;omega)] at hw
     cases hw
  ·have:=h1.1 hw
   simp [show ¬at_<0 by omega,show ¬len s - len part<at_ by omega]
 rw[nCJ]
 refine pQ (fun _=>rfl) (fun hg=> ?_)
 have hw:=(within_iff (by omega)).1 (show rq s at_ (len part)=true by simpa using hg)
 have e1:nM (at_+len part)=at_+len part:=by simp only[len] at hw ⊢;exact nQ (by omega) (by omega)
 have e2:ym s at_=s.take at_.toNat:=by simp [ym]
 have e3:zw s (at_+len part)=s.drop (at_.toNat+part.length):=by
  simp only[zw,List.take_length,len]
  congr 1
  omega
 have g1:okH s at_=true:=by simp only[len] at hw;simp only[okH,Bool.and_eq_true,decide_eq_true_eq];omega
 have g2:okL s (at_+len part)=true:=by simp only[len] at hw ⊢;simp only[okL,Bool.and_eq_true,decide_eq_true_eq];omega
 have g3:ou (s.take at_.toNat) part=true:=by simp only[ou,List.length_take,decide_eq_true_eq];omega
 have g4:ou (s.take at_.toNat++part) (s.drop (at_.toNat+part.length))=true:=by simp only[ou,List.length_append,List.length_take,List.length_drop,decide_eq_true_eq];omega
 simp only[e1,e2,e3,g1,g2,g3,g4,ng,cond_true]
def ncK (k_:Bytes→α) (s:Bytes) (at_:Int) (part:Bytes):α:=
 let z0:Bytes:=zw s (nM (at_+(len part)))
 bif !(rq s at_ (len part)) then k_ s
 else bif Eb (Eb (Eb (Eb true (okH s at_)) (ou (ym s at_) part)) (okL s (nM (at_+(len part))))) (ou ((ym s at_)++part) z0) then
   k_ (((ym s at_)++part)++z0)
  else ke
theorem nsg (k_:Bytes→α) (s:Bytes) (at_:Int) (part:Bytes) (aJ:oK s at_ part=true):ncK ke k_ s at_ part=k_ (qY s at_ part):=by
 simp only[oK,Bool.and_eq_true,decide_eq_true_eq] at aJ
 unfold ncK qY
 refine pQ (fun _=>rfl) (fun hg=> ?_)
 have hw:=(within_iff (by omega)).1 (show rq s at_ (len part)=true by simpa using hg)
 have e1:nM (at_+len part)=at_+len part:=by simp only[len] at hw ⊢;exact nQ (by omega) (by omega)
 have e2:ym s at_=s.take at_.toNat:=by simp [ym]
 have e3:zw s (at_+len part)=s.drop (at_.toNat+part.length):=by
  simp only[zw,List.take_length,len]
  congr 1
  omega
 have g1:okH s at_=true:=by simp only[len] at hw;simp only[okH,Bool.and_eq_true,decide_eq_true_eq];omega
 have g2:okL s (at_+len part)=true:=by simp only[len] at hw ⊢;simp only[okL,Bool.and_eq_true,decide_eq_true_eq];omega
 have g3:ou (s.take at_.toNat) part=true:=by simp only[ou,List.length_take,decide_eq_true_eq];omega
 have g4:ou (s.take at_.toNat++part) (s.drop (at_.toNat+part.length))=true:=by simp only[ou,List.length_append,List.length_take,List.length_drop,decide_eq_true_eq];omega
 simp only[e1,e2,e3,g1,g2,g3,g4,ng,cond_true]
def Th (k_:Bytes→Bool→α) (src dst kind length:Int):α:=
 let z0:Bytes:=((oJ src)++(oJ dst))++(toStr ([[.int 0],[.int (IntKind.wrap .u8 kind)]]))
 bif bif !(nf src 0 4294967295) then true else bif !(nf dst 0 4294967295) then true else bif !(nf kind 0 255) then true else !(nf length 0 65535) then k_ [] false
 else bif Eb (Eb (Eb true (ou (oJ src) (oJ dst))) (ou ((oJ src)++(oJ dst)) (toStr ([[.int 0],[.int (IntKind.wrap .u8 kind)]])))) (ou z0 (nJ length)) then
   k_ (z0++(nJ length)) true
  else ke
def pP (src dst kind length:Int):Bytes×Bool:=
 bif bif !(nf src 0 4294967295) then true else bif !(nf dst 0 4294967295) then true else bif !(nf kind 0 255) then true else !(nf length 0 65535) then ([],false)
 else (oJ src++oJ dst++toStr ([[.int 0],[.int (IntKind.wrap .u8 kind)]])++nJ length,true)
theorem Yu (src dst kind length:Int):(pP src dst kind length).1.length≤12:=by
 have a:=pB src
 have b:=pB dst
 have c:=nW length
 unfold pP
 cases (bif !(nf src 0 4294967295) then true else bif !(nf dst 0 4294967295) then true else bif !(nf kind 0 255) then true else !(nf length 0 65535))
 ·simp only[cond_false,List.length_append,pO,List.length_cons,List.length_nil]
  omega
 ·exact Nat.zero_le _
theorem nfP (k_:Bytes→Bool→α) (src dst kind length:Int):Th ke k_ src dst kind length=k_ (pP src dst kind length).1 (pP src dst kind length).2:=by
 have a:=pB src
 have b:=pB dst
 have c:=nW length
 have g1:ou (oJ src) (oJ dst)=true:=XW (by omega)
 have g2:∀r,ou (oJ src++oJ dst) (toStr [[.int 0],r])=true:=fun r=>XW (by simp only[List.length_append,pO,List.length_cons,List.length_nil];omega)
 have g3:∀r,ou (oJ src++oJ dst++toStr [[.int 0],r]) (nJ length)=true:=fun r=>XW (by simp only[List.length_append,pO,List.length_cons,List.length_nil];omega)
 unfold Th pP
 simp only[g1,g2,g3,ng,cond_true]
 exact J5 (K:=fun r:Bytes×Bool=>k_ r.1 r.2) rfl rfl
def TQ (k_:Bytes→Bool→α) (src dst kind length:Int):α:=
 let z0:Bytes:=((oJ src)++(oJ dst))++(toStr ([[.int 0],[.int (IntKind.wrap .u8 kind)]]))
 bif bif !(nf src 0 4294967295) then true else bif !(nf dst 0 4294967295) then true else bif !(nf kind 0 255) then true else !(nf length 0 65535) then k_ [] false
 else bif Eb (Eb (Eb true (ou (oJ src) (oJ dst))) (ou ((oJ src)++(oJ dst)) (toStr ([[.int 0],[.int (IntKind.wrap .u8 kind)]])))) (ou z0 (nJ length)) then
   k_ (z0++(nJ length)) true
  else ke
theorem ngw (k_:Bytes→Bool→α) (src dst kind length:Int):TQ ke k_ src dst kind length=k_ (pP src dst kind length).1 (pP src dst kind length).2:=by
 have a:=pB src
 have b:=pB dst
 have c:=nW length
 have g1:ou (oJ src) (oJ dst)=true:=XW (by omega)
 have g2:∀r,ou (oJ src++oJ dst) (toStr [[.int 0],r])=true:=fun r=>XW (by simp only[List.length_append,pO,List.length_cons,List.length_nil];omega)
 have g3:∀r,ou (oJ src++oJ dst++toStr [[.int 0],r]) (nJ length)=true:=fun r=>XW (by simp only[List.length_append,pO,List.length_cons,List.length_nil];omega)
 unfold TQ pP
 simp only[g1,g2,g3,ng,cond_true]
 exact J5 (K:=fun r:Bytes×Bool=>k_ r.1 r.2) rfl rfl
def SE {α:Type} (k_:Int→α) (kind:Int):α:=
 bif kind==6 then k_ 16
 else k_ 6
def vD (kind:Int):Int:=SE id kind
theorem nqf {α:Type} (k_:Int→α) (kind:Int):SE k_ kind=k_ (vD kind):=by
 exact J5 rfl rfl
def UF (k_:Bytes→α) (g:nD):α:=
 let z0:Bytes:=(nJ g.oN)++(nJ g.oM)
 let z1:Bytes:=z0++(oJ g.Seq)
 let z2:Bytes:=z1++(oJ g.Ack)
 let z3:Bytes:=z2++(toStr ([[.int 80],[.int (IntKind.wrap .u8 g.Flags)]]))
 let z4:Bytes:=z3++(nJ g.tM)
 let z5:Bytes:=z4++(nJ 0)
 let z6:Bytes:=z5++(nJ 0)
 let z7:Bytes:=nJ (nM (8+(len g.Body)))
 let z8:Bytes:=z0++z7
 let z9:Bytes:=z8++(nJ 0)
 bif Eb true (ou (nJ g.oN) (nJ g.oM)) then
  bif g.Kind==6 then
   bif Eb (Eb (Eb (Eb (Eb (Eb (Eb true (ou z0 (oJ g.Seq))) (ou z1 (oJ g.Ack))) (ou z2 (toStr ([[.int 80],[.int (IntKind.wrap .u8 g.Flags)]])))) (ou z3 (nJ g.tM))) (ou z4 (nJ 0))) (ou z5 (nJ 0))) (ou z6 g.Body) then
    k_ (z6++g.Body)
   else ke
  else bif Eb (Eb (Eb true (ou z0 z7)) (ou z8 (nJ 0))) (ou z9 g.Body) then
    k_ (z9++g.Body)
   else ke
 else ke
def naS (q:nD):Bytes:=bif q.Kind==6 then nJ q.oN++nJ q.oM++oJ q.Seq++oJ q.Ack++toStr ([[.int 80],[.int (IntKind.wrap .u8 q.Flags)]])++nJ q.tM++nJ 0++nJ 0
 else nJ q.oN++nJ q.oM++nJ (nM (8+(len q.Body)))++nJ 0
def o_ (q:nD):Bytes:=naS q++q.Body
def nyH (q:nD):Bool:=decide (q.Body.length≤1000)
theorem noX (q:nD):(naS q).length≤20:=by
 have a:=nW q.oN
 have b:=nW q.oM
 have c:=pB q.Seq
 have d:=pB q.Ack
 have e:=nW q.tM
 have f:=nW 0
 have h:=nW (nM (8+(len q.Body)))
 unfold naS
 cases q.Kind==6
 ·simp only[cond_false,List.length_append];omega
 ·simp only[cond_true,List.length_append,pO,List.length_cons,List.length_nil];omega
theorem na2 (q:nD):(o_ q).length≤q.Body.length+20:=by
 have:=noX q
 simp only[o_,List.length_append]
 omega
theorem nhY (k_:Bytes→α) (g:nD) (aJ:nyH g=true):UF ke k_ g=k_ (o_ g):=by
 have hb:g.Body.length≤1000:=of_decide_eq_true aJ
 have a:=nW g.oN
 have b:=nW g.oM
 have c:=pB g.Seq
 have d:=pB g.Ack
 have e:=nW g.tM
 have f:=nW 0
 have f4:=pB 0
 have hh:=nW (nM (8+(len g.Body)))
 unfold UF o_ naS
 refine pM (by simp only[gn,ou,ss,List.length_append,pO,List.length_cons,List.length_nil,decide_eq_true_eq,true_and,and_true];omega) ?_
 cases g.Kind==6
 ·simp only[cond_false]
  refine pM (by simp only[gn,ou,ss,List.length_append,pO,List.length_cons,List.length_nil,decide_eq_true_eq,true_and,and_true];omega) ?_
  rfl
 ·simp only[cond_true]
  refine pM (by simp only[gn,ou,ss,List.length_append,pO,List.length_cons,List.length_nil,decide_eq_true_eq,true_and,and_true];omega) ?_
  rfl
def Tg (k_:Bytes→Bool→α) (src dst:Int) (g:nD):α:=
 let z0:Bytes×Bool:=pP src dst g.Kind (len (o_ g))
 let z1:Bytes:=z0.1++(o_ g)
 let z2:Int:=xg z1
 let z3:Bytes:=nJ (bif bif g.Kind==17 then z2==0 else false then 65535 else z2)
 bif !(sO g) then k_ [] false
 else bif Eb true (nyH g) then
   bif !z0.2 then k_ [] false
   else bif Eb (Eb true (ou z0.1 (o_ g))) (ss z1) then
     bif Eb true (oK (o_ g) (vD g.Kind) z3) then
      k_ (qY (o_ g) (vD g.Kind) z3) true
     else ke
    else ke
  else ke
theorem nfq (kind:Int):vD kind=bif kind==6 then 16 else 6:=by
 unfold vD SE
 cases kind==6<;>rfl
def noc (src dst:Int) (g:nD):Int:=xg ((pP src dst g.Kind (len (o_ g))).1++o_ g)
def rL (src dst:Int) (g:nD):Bytes×Bool:=
 bif !(sO g) then ([],false) else bif !(pP src dst g.Kind (len (o_ g))).2 then ([],false)
 else (qY (o_ g) (vD g.Kind) (nJ (bif bif g.Kind==17 then noc src dst g==0 else false then 65535 else noc src dst g)),true)
theorem nfL (k_:Bytes→Bool→α) (src dst:Int) (g:nD):Tg ke k_ src dst g=k_ (rL src dst g).1 (rL src dst g).2:=by
 unfold Tg rL
 refine pQ (K:=fun r:Bytes×Bool=>k_ r.1 r.2) (fun _=>rfl) (fun hg=> ?_)
 have hs:sO g=true:=by simpa using hg
 have a:=nA1 hs
 have b:=na2 g
 have hp:=Yu src dst g.Kind (len (o_ g))
 have g1:nyH g=true:=decide_eq_true (by omega)
 have g2:ou (pP src dst g.Kind (len (o_ g))).1 (o_ g)=true:=XW (by omega)
 have g3:∀v,oK (o_ g) (vD g.Kind) (nJ v)=true:=fun v=>by
  have:=nW v
  simp only[oK,Bool.and_eq_true,decide_eq_true_eq];omega
 have g4:ss ((pP src dst g.Kind (len (o_ g))).1++o_ g)=true:=decide_eq_true (by rw[List.length_append];omega)
 simp only[g1,g2,g3,g4,ng,cond_true]
 exact J5 (K:=fun r:Bytes×Bool=>k_ r.1 r.2) rfl rfl
def TM (k_:Bytes→Bool→α) (src dst:Int) (g:nD):α:=
 let z0:Bytes:=(nJ g.oN)++(nJ g.oM)
 let z1:Bytes:=z0++(oJ g.Seq)
 let z2:Bytes:=z1++(oJ g.Ack)
 let z3:Bytes:=z2++(toStr ([[.int 80],[.int (IntKind.wrap .u8 g.Flags)]]))
 let z4:Bytes:=z3++(nJ g.tM)
 let z5:Bytes:=nJ (nM (8+(len g.Body)))
 let z6:Bytes:=z0++z5
 let z7:Bytes:=bif g.Kind==6 then z4++(oJ 0) else z6++(nJ 0)
 let z8:Bytes:=z7++g.Body
 let z9:Bytes×Bool:=pP src dst g.Kind (len z8)
 let z10:Bytes:=z9.1
 let z11:Bytes:=z10++z8
 let z12:Int:=bif g.Kind==6 then 16 else 6
 let z13:Int:=xg z11
 let z14:Bytes:=nJ (bif bif z13==0 then g.Kind==17 else false then 65535 else z13)
 bif !(sO g) then k_ [] false
 else bif Eb true (ou (nJ g.oN) (nJ g.oM)) then
   bif LV (g.Kind==6) (Eb (Eb (Eb (Eb (Eb true (ou z0 (oJ g.Seq))) (ou z1 (oJ g.Ack))) (ou z2 (toStr ([[.int 80],[.int (IntKind.wrap .u8 g.Flags)]])))) (ou z3 (nJ g.tM))) (ou z4 (oJ 0))) (Eb (Eb true (ou z0 z5)) (ou z6 (nJ 0))) then
    bif Eb true (ou z7 g.Body) then
     bif !z9.2 then k_ [] false
     else bif Eb (Eb true (ou z10 z8)) (ss z11) then
       bif Eb true (oK z8 z12 z14) then
        k_ (qY z8 z12 z14) true
       else ke
      else ke
    else ke
   else ke
  else ke
theorem ngs (k_:Bytes→Bool→α) (src dst:Int) (g:nD):TM ke k_ src dst g=k_ (rL src dst g).1 (rL src dst g).2:=by
 unfold TM rL
 refine pQ (K:=fun r:Bytes×Bool=>k_ r.1 r.2) (fun _=>rfl) (fun hg=> ?_)
 have hs:sO g=true:=by simpa using hg
 have ha:=nA1 hs
 have hb:=na2 g
 have hp:=Yu src dst g.Kind (len (o_ g))
 have a:=nW g.oN
 have b:=nW g.oM
 have c:=pB g.Seq
 have d:=pB g.Ack
 have e:=nW g.tM
 have f:=nW 0
 have f4:=pB 0
 have hh:=nW (nM (8+(len g.Body)))
 have e0:oJ 0=nJ 0++nJ 0:=by unfold oJ nJ zT xA;rfl
 have eh:(bif g.Kind==6 then nJ g.oN++nJ g.oM++oJ g.Seq++oJ g.Ack++toStr ([[.int 80],[.int (IntKind.wrap .u8 g.Flags)]])++nJ g.tM++oJ 0 else nJ g.oN++nJ g.oM++nJ (nM (8+(len g.Body)))++nJ 0)=naS g:=by
  unfold naS
  cases g.Kind==6
  ·rfl
  ·simp only[cond_true,e0,List.append_assoc]
 refine pM (by simp only[gn,ou,ss,List.length_append,pO,List.length_cons,List.length_nil,decide_eq_true_eq,true_and,and_true];omega) ?_
 refine pM (Z0 (fun _=>(by simp only[gn,ou,ss,List.length_append,pO,List.length_cons,List.length_nil,decide_eq_true_eq,true_and,and_true];omega)) (fun _=>(by simp only[gn,ou,ss,List.length_append,pO,List.length_cons,List.length_nil,decide_eq_true_eq,true_and,and_true];omega))) ?_
 rw[eh]
 have DJ:=noX g
 refine pM (by simp only[gn,ou,ss,List.length_append,pO,List.length_cons,List.length_nil,decide_eq_true_eq,true_and,and_true];omega) ?_
 have eb:naS g++g.Body=o_ g:=rfl
 rw[eb]
 have es:(bif g.Kind==6 then (16:Int) else 6)=vD g.Kind:=(nfq _).symm
 have g2:ou (pP src dst g.Kind (len (o_ g))).1 (o_ g)=true:=XW (by omega)
 have g3:∀v,oK (o_ g) (vD g.Kind) (nJ v)=true:=fun v=>by
  have:=nW v
  simp only[oK,Bool.and_eq_true,decide_eq_true_eq];omega
 have ez:(bif noc src dst g==0 then g.Kind==17 else false)=(bif g.Kind==17 then noc src dst g==0 else false):=by
  cases noc src dst g==0<;>cases g.Kind==17<;>rfl
 have es2:xg ((pP src dst g.Kind (len (o_ g))).1++o_ g)=noc src dst g:=rfl
 have g4:ss ((pP src dst g.Kind (len (o_ g))).1++o_ g)=true:=decide_eq_true (by rw[List.length_append];omega)
 simp only[es,es2,ez,g2,g3,g4,ng,cond_true]
 exact J5 (K:=fun r:Bytes×Bool=>k_ r.1 r.2) rfl rfl
def ndu {α:Type} (k_:Bool→α) (d:wF):α:=
 k_ (bif nf d.Tos 0 255 then bif nf d.Ttl 0 255 then bif nf d.njE 0 255 then bif nf d.Id 0 65535 then bif nf d.Src 0 4294967295 then bif nf d.T6 0 4294967295 then decide (len d.Body≤380) else false else false else false else false else false else false)
def ns0 (d:wF):Bool:=ndu id d
theorem nzI {α:Type} (k_:Bool→α) (d:wF):ndu k_ d=k_ (ns0 d):=by
 rfl
def nz6 {α:Type} (k_:Bool→α) (d:wF):α:=
 k_ (bif nf d.Tos 0 255 then bif nf d.Ttl 0 255 then bif nf d.njE 0 255 then bif nf d.Id 0 65535 then bif nf d.Src 0 4294967295 then bif nf d.T6 0 4294967295 then decide (len d.Body≤380) else false else false else false else false else false else false)
theorem nz4 {α:Type} (k_:Bool→α) (d:wF):nz6 k_ d=k_ (ns0 d):=by
 exact rfl
def nbf (k_:Bytes→Bool→α) (d:wF):α:=
 let z0:Bytes:=nJ (nM (20+(len d.Body)))
 let z1:Bytes:=(toStr ([[.int 69],[.int (IntKind.wrap .u8 d.Tos)]]))++z0
 let z2:Bytes:=z1++(nJ d.Id)
 let z3:Bytes:=z2++(nJ 16384)
 let z4:Bytes:=z3++(toStr ([[.int (IntKind.wrap .u8 d.Ttl)],[.int (IntKind.wrap .u8 d.njE)]]))
 let z5:Bytes:=z4++(nJ 0)
 let z6:Bytes:=z5++(oJ d.Src)
 let z7:Bytes:=z6++(oJ d.T6)
 let z8:Bytes:=nJ (xg z7)
 bif !(ns0 d) then k_ [] false
 else bif Eb (Eb (Eb (Eb (Eb (Eb (Eb true (ou (toStr ([[.int 69],[.int (IntKind.wrap .u8 d.Tos)]])) z0)) (ou z1 (nJ d.Id))) (ou z2 (nJ 16384))) (ou z3 (toStr ([[.int (IntKind.wrap .u8 d.Ttl)],[.int (IntKind.wrap .u8 d.njE)]])))) (ou z4 (nJ 0))) (ou z5 (oJ d.Src))) (ou z6 (oJ d.T6)) then
   bif Eb (Eb true (ss z7)) (oK z7 10 z8) then
    k_ (qY z7 10 z8) true
   else ke
  else ke
def ipz (d:wF):Bytes:=toStr ([[.int 69],[.int (IntKind.wrap .u8 d.Tos)]])++nJ (nM (20+(len d.Body)))++nJ d.Id++nJ 16384++toStr ([[.int (IntKind.wrap .u8 d.Ttl)],[.int (IntKind.wrap .u8 d.njE)]])++nJ 0++oJ d.Src++oJ d.T6
theorem ny1 (d:wF):(ipz d).length≤20:=by
 have a:=nW (nM (20+(len d.Body)))
 have b:=nW d.Id
 have c:=nW 16384
 have e:=nW 0
 have f:=pB d.Src
 have h:=pB d.T6
 simp only[ipz,List.length_append,pO,List.length_cons,List.length_nil]
 omega
def rE (d:wF):Bytes×Bool:=bif !(ns0 d) then ([],false) else (qY (ipz d) 10 (nJ (xg (ipz d))),true)
theorem ns1 {d:wF} (h:ns0 d=true):d.Body.length≤380:=by
 unfold ns0 ndu at h
 by_cases h3:len d.Body≤380
 ·simp only[len] at h3
  omega
 ·rw[decide_eq_false h3] at h
  revert h
  cases nf d.Tos 0 255<;>cases nf d.Ttl 0 255<;>cases nf d.njE 0 255<;>cases nf d.Id 0 65535<;>cases nf d.Src 0 4294967295<;>cases nf d.T6 0 4294967295<;>simp
theorem nai (d:wF):(rE d).1.length≤20:=by
 unfold rE
 cases ns0 d
 ·exact Nat.zero_le _
 ·have:=ny1 d
  simp only[Bool.not_true,cond_false]
  rw[sq (by omega)]
  exact this
theorem ndf {d:wF} (h:(rE d).2=true):ns0 d=true:=by
 unfold rE at h
 cases hi:ns0 d
 ·rw[hi] at h;cases h
 ·rfl
theorem npu (k_:Bytes→Bool→α) (d:wF):nbf ke k_ d=k_ (rE d).1 (rE d).2:=by
 have a:=nW (nM (20+(len d.Body)))
 have b:=nW d.Id
 have c:=nW 16384
 have e:=nW 0
 have f:=pB d.Src
 have h:=pB d.T6
 unfold nbf rE
 refine pQ (K:=fun r:Bytes×Bool=>k_ r.1 r.2) (fun _=>rfl) (fun hg=> ?_)
 refine pM (by simp only[gn,ou,ss,List.length_append,pO,List.length_cons,List.length_nil,decide_eq_true_eq,true_and,and_true];omega) ?_
 have hz:=ny1 d
 have g3:∀v,oK (ipz d) 10 (nJ v)=true:=fun v=>by
  have:=nW v
  simp only[oK,Bool.and_eq_true,decide_eq_true_eq];omega
 have g4:ss (ipz d)=true:=decide_eq_true (by omega)
 refine pM ?_ rfl
 rw[gn,gn]
 exact⟨⟨rfl,g4⟩,g3 _⟩
def ncC (k_:Bytes→Bool→α) (d:wF):α:=
 let z0:Bytes:=nJ (nM (20+(len d.Body)))
 let z1:Bytes:=(toStr ([[.int 69],[.int (IntKind.wrap .u8 d.Tos)]]))++z0
 let z2:Bytes:=z1++(nJ d.Id)
 let z3:Bytes:=z2++(nJ 16384)
 let z4:Bytes:=z3++(toStr ([[.int (IntKind.wrap .u8 d.Ttl)],[.int (IntKind.wrap .u8 d.njE)]]))
 let z5:Bytes:=z4++(nJ 0)
 let z6:Bytes:=z5++(oJ d.Src)
 let z7:Bytes:=z6++(oJ d.T6)
 let z8:Bytes:=nJ (xg z7)
 bif !(ns0 d) then k_ [] false
 else bif Eb (Eb (Eb (Eb (Eb (Eb (Eb true (ou (toStr ([[.int 69],[.int (IntKind.wrap .u8 d.Tos)]])) z0)) (ou z1 (nJ d.Id))) (ou z2 (nJ 16384))) (ou z3 (toStr ([[.int (IntKind.wrap .u8 d.Ttl)],[.int (IntKind.wrap .u8 d.njE)]])))) (ou z4 (nJ 0))) (ou z5 (oJ d.Src))) (ou z6 (oJ d.T6)) then
   bif Eb (Eb true (ss z7)) (oK z7 10 z8) then
    k_ (qY z7 10 z8) true
   else ke
  else ke
theorem nr9 (k_:Bytes→Bool→α) (d:wF):ncC ke k_ d=k_ (rE d).1 (rE d).2:=by
 have a:=nW (nM (20+(len d.Body)))
 have b:=nW d.Id
 have c:=nW 16384
 have e:=nW 0
 have f:=pB d.Src
 have h:=pB d.T6
 unfold ncC rE
 refine pQ (K:=fun r:Bytes×Bool=>k_ r.1 r.2) (fun _=>rfl) (fun hg=> ?_)
 refine pM (by simp only[gn,ou,ss,List.length_append,pO,List.length_cons,List.length_nil,decide_eq_true_eq,true_and,and_true];omega) ?_
 have hz:=ny1 d
 have g3:∀v,oK (ipz d) 10 (nJ v)=true:=fun v=>by
  have:=nW v
  simp only[oK,Bool.and_eq_true,decide_eq_true_eq];omega
 have g4:ss (ipz d)=true:=decide_eq_true (by omega)
 refine pM ?_ rfl
 rw[gn,gn]
 exact⟨⟨rfl,g4⟩,g3 _⟩
def nds (k_:Bytes→Bool→α) (d:wF):α:=
 bif !((rE d).2) then k_ [] false
 else bif Eb true (ou ((rE d).1) d.Body) then
   k_ (((rE d).1)++d.Body) true
  else ke
def yJ (d:wF):Bytes×Bool:=bif !(rE d).2 then ([],false) else ((rE d).1++d.Body,true)
theorem nzs (d:wF):(yJ d).1.length≤400:=by
 unfold yJ
 cases h:(rE d).2
 ·exact Nat.zero_le _
 ·have h1:=ns1 (ndf h)
  have h2:=nai d
  simp only[Bool.not_true,cond_false,List.length_append]
  omega
theorem ntk (k_:Bytes→Bool→α) (d:wF):nds ke k_ d=k_ (yJ d).1 (yJ d).2:=by
 unfold nds yJ
 refine pQ (K:=fun r:Bytes×Bool=>k_ r.1 r.2) (fun _=>rfl) (fun hg=> ?_)
 have h1:=ns1 (ndf (d:=d) (by simpa using hg))
 have h2:=nai d
 refine pM (by simp only[gn,ou,ss,List.length_append,pO,List.length_cons,List.length_nil,decide_eq_true_eq,true_and,and_true];omega) rfl
def neK (k_:Bytes→Bool→α) (d:wF):α:=
 bif !((rE d).2) then k_ [] false
 else bif Eb true (ou ((rE d).1) d.Body) then
   k_ (((rE d).1)++d.Body) true
  else ke
theorem nu6 (k_:Bytes→Bool→α) (d:wF):neK ke k_ d=k_ (yJ d).1 (yJ d).2:=by
 unfold neK yJ
 refine pQ (K:=fun r:Bytes×Bool=>k_ r.1 r.2) (fun _=>rfl) (fun hg=> ?_)
 have h1:=ns1 (ndf (d:=d) (by simpa using hg))
 have h2:=nai d
 refine pM (by simp only[gn,ou,ss,List.length_append,pO,List.length_cons,List.length_nil,decide_eq_true_eq,true_and,and_true];omega) rfl
def ndv (k_:Bytes→α) (s:Bytes):α:=
 let z0:Bytes:=nlF 0 (nM (46 - (len s)))
 bif decide (46≤len s) then k_ s
 else bif Eb (Eb true (nfJ 0 (nM (46 - (len s))))) (ou s z0) then
   k_ (s++z0)
  else ke
def OS (s:Bytes):Bytes:=bif decide (46≤len s) then s else s++NI (46 - len s) 0
theorem nzu {s:Bytes} {n:Nat} (h:s.length≤n) (h46:46≤n):46≤(OS s).length∧(OS s).length≤n:=by
 unfold OS
 by_cases hc:46≤len s
 ·simp only[decide_eq_true hc,cond_true]
  simp only[len] at hc
  omega
 ·simp only[decide_eq_false hc,cond_false,List.length_append,NI,List.length_replicate]
  simp only[len] at hc ⊢
  omega
theorem nts (k_:Bytes→α) (s:Bytes) (RQ:G1 .str (.str s)):ndv ke k_ s=k_ (OS s):=by
 have hl:=OC RQ
 have hl0:0≤len s:=by simp [len]
 have GG:len s≤9223372036854775807:=by simp only[len];omega
 unfold ndv OS
 by_cases h:46≤len s
 ·have h2:¬len s<46:=by omega
  simp only[h,h2,decide_true,decide_false,cond_true,cond_false]
 ·have h2:len s<46:=by omega
  have e:nM (46 - len s)=46 - len s:=nQ (by omega) (by omega)
  have o1:QE (46 - len s) 0=true:=nS.2 (by omega)
  have o2:ou s (NI (46 - len s) 0)=true:=XW (by simp only[NI,List.length_replicate,len] at*;omega)
  simp only[h,h2,decide_true,decide_false,cond_true,cond_false,e,nfJ,nlF,o1,o2,ng]
def neM (k_:Bytes→α) (s:Bytes):α:=
 let z0:Bytes:=NI (nM (46 - (len s))) 0
 bif decide (len s<46) then
  bif Eb (Eb true (QE (nM (46 - (len s))) 0)) (ou s z0) then
   k_ (s++z0)
  else ke
 else k_ s
theorem nvd (k_:Bytes→α) (s:Bytes) (RQ:G1 .str (.str s)):neM ke k_ s=k_ (OS s):=by
 have hl:=OC RQ
 have hl0:0≤len s:=by simp [len]
 have GG:len s≤9223372036854775807:=by simp only[len];omega
 unfold neM OS
 by_cases h:46≤len s
 ·have h2:¬len s<46:=by omega
  simp only[h,h2,decide_true,decide_false,cond_true,cond_false]
 ·have h2:len s<46:=by omega
  have e:nM (46 - len s)=46 - len s:=nQ (by omega) (by omega)
  have o1:QE (46 - len s) 0=true:=nS.2 (by omega)
  have o2:ou s (NI (46 - len s) 0)=true:=XW (by simp only[NI,List.length_replicate,len] at*;omega)
  simp only[h,h2,decide_true,decide_false,cond_true,cond_false,e,o1,o2,ng]
def yN {α:Type} (k_:Bool→α) (e:r_):α:=
 k_ (bif nf e.T6 0 281474976710655 then bif nf e.Src 0 281474976710655 then bif nf e.sQ (-1) 4095 then bif nf e.zI 1536 65535 then bif e.zI != 33024 then nf (len e.Body) 46 400 else false else false else false else false else false)
def T7 (e:r_):Bool:=yN id e
theorem nyO {α:Type} (k_:Bool→α) (e:r_):yN k_ e=k_ (T7 e):=by
 rfl
def nzb {α:Type} (k_:Bool→α) (e:r_):α:=
 k_ (bif nf e.T6 0 281474976710655 then bif nf e.Src 0 281474976710655 then bif nf e.sQ (-1) 4095 then bif nf e.zI 1536 65535 then bif e.zI != 33024 then nf (len e.Body) 46 400 else false else false else false else false else false)
theorem ny_ {α:Type} (k_:Bool→α) (e:r_):nzb k_ e=k_ (T7 e):=by
 exact rfl
def nbH (k_:Bytes→α) (a:Int):α:=
 bif Eb true (ou (nJ (ndb .i64 a 32)) (oJ (bits .and .i64 a 4294967295))) then
  k_ ((nJ (ndb .i64 a 32))++(oJ (bits .and .i64 a 4294967295)))
 else ke
def oS (a:Int):Bytes:=nJ (ndb .i64 a 32)++oJ (bits .and .i64 a 4294967295)
theorem zb (x:Int):(oS x).length≤6:=by
 have a:=nW (ndb .i64 x 32)
 have b:=pB (bits .and .i64 x 4294967295)
 simp only[oS,List.length_append]
 omega
theorem nqb (k_:Bytes→α) (a:Int):nbH ke k_ a=k_ (oS a):=by
 have q1:=nW (ndb .i64 a 32)
 have q2:=pB (bits .and .i64 a 4294967295)
 unfold nbH oS
 refine pM (by simp only[gn,ou,ss,List.length_append,pO,List.length_cons,List.length_nil,decide_eq_true_eq,true_and,and_true];omega) rfl
def XR (k_:Bytes→α) (x:Int):α:=
 bif Eb true (ou (nJ (ndb .i64 x 32)) (oJ (bits .and .i64 x 4294967295))) then
  k_ ((nJ (ndb .i64 x 32))++(oJ (bits .and .i64 x 4294967295)))
 else ke
theorem nl5 (k_:Bytes→α) (x:Int):XR ke k_ x=k_ (oS x):=by
 have q1:=nW (ndb .i64 x 32)
 have q2:=pB (bits .and .i64 x 4294967295)
 unfold XR oS
 refine pM (by simp only[gn,ou,ss,List.length_append,pO,List.length_cons,List.length_nil,decide_eq_true_eq,true_and,and_true];omega) rfl
def na3 (k_:Bytes→Bool→α) (e:r_):α:=
 let z0:Bytes:=(oS e.T6)++(oS e.Src)
 let z1:Bytes:=(nJ 33024)++(nJ e.sQ)
 let z2:Bytes:=bif decide (0≤e.sQ) then z0++z1 else z0
 let z3:Bytes:=z2++(nJ e.zI)
 bif !(T7 e) then k_ [] false
 else bif Eb true (ou (oS e.T6) (oS e.Src)) then
   bif LV (decide (0≤e.sQ)) (Eb (Eb true (ou (nJ 33024) (nJ e.sQ))) (ou z0 z1)) true then
    bif Eb (Eb true (ou z2 (nJ e.zI))) (ou z3 e.Body) then
     k_ (z3++e.Body) true
    else ke
   else ke
  else ke
def O3 (e:r_):Bytes:=bif decide (0≤e.sQ) then oS e.T6++oS e.Src++(nJ 33024++nJ e.sQ) else oS e.T6++oS e.Src
def uo (e:r_):Bytes×Bool:=bif !(T7 e) then ([],false) else (O3 e++nJ e.zI++e.Body,true)
theorem ndj (e:r_):(O3 e).length≤16:=by
 have a:=zb e.T6
 have b:=zb e.Src
 have c:=nW 33024
 have d:=nW e.sQ
 unfold O3
 cases decide (0≤e.sQ)
 ·simp only[cond_false,List.length_append];omega
 ·simp only[cond_true,List.length_append];omega
theorem nmc {e:r_} (h:T7 e=true):e.Body.length≤400:=by
 unfold T7 yN at h
 cases hb:nf (len e.Body) 46 400
 ·rw[hb] at h
  revert h
  cases nf e.T6 0 281474976710655<;>cases nf e.Src 0 281474976710655<;>cases nf e.sQ (-1) 4095<;>cases nf e.zI 1536 65535<;>cases e.zI != 33024<;>simp
 ·have:=nS.1 hb
  simp only[len] at this
  omega
theorem nyA (e:r_):(uo e).1.length≤420:=by
 unfold uo
 cases h:T7 e
 ·exact Nat.zero_le _
 ·have h1:=nmc h
  have h2:=ndj e
  have h3:=nW e.zI
  simp only[Bool.not_true,cond_false,List.length_append]
  omega
theorem no_ (k_:Bytes→Bool→α) (e:r_):na3 ke k_ e=k_ (uo e).1 (uo e).2:=by
 have a:=zb e.T6
 have b:=zb e.Src
 have c:=nW 33024
 have d:=nW e.sQ
 have f:=nW e.zI
 unfold na3 uo
 refine pQ (K:=fun r:Bytes×Bool=>k_ r.1 r.2) (fun _=>rfl) (fun hg=> ?_)
 have hb:=nmc (e:=e) (by simpa using hg)
 refine pM (by simp only[gn,ou,ss,List.length_append,pO,List.length_cons,List.length_nil,decide_eq_true_eq,true_and,and_true];omega) ?_
 refine pM (Z0 (fun _=>(by simp only[gn,ou,ss,List.length_append,pO,List.length_cons,List.length_nil,decide_eq_true_eq,true_and,and_true];omega)) (fun _=>rfl)) ?_
 have eh:(bif decide (0≤e.sQ) then oS e.T6++oS e.Src++(nJ 33024++nJ e.sQ) else oS e.T6++oS e.Src)=O3 e:=rfl
 rw[eh]
 have hh:=ndj e
 refine pM (by simp only[gn,ou,ss,List.length_append,pO,List.length_cons,List.length_nil,decide_eq_true_eq,true_and,and_true];omega) rfl
def ncm (k_:Bytes→Bool→α) (e:r_):α:=
 let z0:Bytes:=(oS e.T6)++(oS e.Src)
 let z1:Bytes:=z0++(nJ 33024)
 let z2:Bytes:=bif decide (0≤e.sQ) then z1++(nJ e.sQ) else z0
 let z3:Bytes:=z2++(nJ e.zI)
 bif !(T7 e) then k_ [] false
 else bif Eb true (ou (oS e.T6) (oS e.Src)) then
   bif LV (decide (0≤e.sQ)) (Eb (Eb true (ou z0 (nJ 33024))) (ou z1 (nJ e.sQ))) true then
    bif Eb (Eb true (ou z2 (nJ e.zI))) (ou z3 e.Body) then
     k_ (z3++e.Body) true
    else ke
   else ke
  else ke
theorem nrR (k_:Bytes→Bool→α) (e:r_):ncm ke k_ e=k_ (uo e).1 (uo e).2:=by
 have a:=zb e.T6
 have b:=zb e.Src
 have c:=nW 33024
 have d:=nW e.sQ
 have f:=nW e.zI
 unfold ncm uo
 refine pQ (K:=fun r:Bytes×Bool=>k_ r.1 r.2) (fun _=>rfl) (fun hg=> ?_)
 have hb:=nmc (e:=e) (by simpa using hg)
 refine pM (by simp only[gn,ou,ss,List.length_append,pO,List.length_cons,List.length_nil,decide_eq_true_eq,true_and,and_true];omega) ?_
 refine pM (Z0 (fun _=>(by simp only[gn,ou,ss,List.length_append,pO,List.length_cons,List.length_nil,decide_eq_true_eq,true_and,and_true];omega)) (fun _=>rfl)) ?_
 have eh:(bif decide (0≤e.sQ) then oS e.T6++oS e.Src++nJ 33024++nJ e.sQ else oS e.T6++oS e.Src)=O3 e:=by
  unfold O3
  cases decide (0≤e.sQ)
  ·rfl
  ·simp only[cond_true,List.append_assoc]
 rw[eh]
 have hh:=ndj e
 refine pM (by simp only[gn,ou,ss,List.length_append,pO,List.length_cons,List.length_nil,decide_eq_true_eq,true_and,and_true];omega) rfl
def Wu {α:Type} (k_:Bytes→Bool→α) (p:nx):α:=
 let z0:Bytes×Bool:=uo (⟨p.we,p.wg,p.sQ,2048,OS ((yJ (⟨p.Tos,p.Id,p.Ttl,p.tU.Kind,p.ql,p.qK,(rL p.ql p.qK p.tU).1⟩:wF)).1)⟩:r_)
 bif !(sY p) then k_ [] false
 else k_ z0.1 z0.2
def p8 (p:nx):r_:=(⟨p.we,p.wg,p.sQ,2048,OS (yJ (⟨p.Tos,p.Id,p.Ttl,p.tU.Kind,p.ql,p.qK,(rL p.ql p.qK p.tU).1⟩:wF)).1⟩:r_)
def oq (p:nx):Bytes×Bool:=bif !(sY p) then ([],false) else uo (p8 p)
theorem OQ (p:nx):(oq p).1.length≤420:=by
 unfold oq
 cases sY p
 ·exact Nat.zero_le _
 ·exact nyA _
theorem njM {α:Type} (k_:Bytes→Bool→α) (p:nx):Wu k_ p=k_ (oq p).1 (oq p).2:=by
 unfold Wu oq
 exact J5 (K:=fun r:Bytes×Bool=>k_ r.1 r.2) rfl rfl
def XD {α:Type} (k_:Bytes→Bool→α) (p:nx):α:=
 let z0:Bytes×Bool:=uo (⟨p.we,p.wg,p.sQ,2048,OS ((yJ (⟨p.Tos,p.Id,p.Ttl,p.tU.Kind,p.ql,p.qK,(rL p.ql p.qK p.tU).1⟩:wF)).1)⟩:r_)
 bif !(sY p) then k_ [] false
 else k_ z0.1 z0.2
theorem nlH {α:Type} (k_:Bytes→Bool→α) (p:nx):XD k_ p=k_ (oq p).1 (oq p).2:=by
 unfold XD oq
 exact J5 (K:=fun r:Bytes×Bool=>k_ r.1 r.2) rfl rfl
theorem nhx (p:Nat→List DC→Bool):∀(l:Rows) (s:Nat),qn p l s=true↔∃i,i<l.length∧p (s+i) (nth l i)=true
 | [],s=>by simp [qn]
 | r::l,s=>by
  unfold qn
  cases hp:p s r
  ·simp only[cond_false,nhx p l (s+1)]
   constructor
   ·rintro ⟨i,h1,h2⟩
    refine⟨i+1,by simp;omega, ?_⟩
    rw[show s+(i+1)=s+1+i by omega]
    exact h2
   ·rintro ⟨i,h1,h2⟩
    cases i with
    | zero=>exfalso;rw[show nth (r::l) 0=r from rfl,Nat.add_zero,hp] at h2;cases h2
    | succ i=>
     refine⟨i,by simp only[List.length_cons] at h1;omega, ?_⟩
     rw[show s+1+i=s+(i+1) by omega]
     exact h2
  ·simp only[cond_true,true_iff]
   exact⟨0,by simp,hp⟩
theorem nyg {p:Nat→List DC→Bool} {l:Rows} {s:Nat} (h:qn p l s=false):∀i,i<l.length→p (s+i) (nth l i)=false:=by
 intro i hi
 cases hp:p (s+i) (nth l i)
 ·rfl
 ·rw[(nhx p l s).2 ⟨i,hi,hp⟩] at h
  cases h
theorem O7 (p:Nat→List DC→Bool):∀(l:Rows) (s:Nat),(findIdx p l s= -1∧∀i,i<l.length→p (s+i) (nth l i)=false)∨∃i,i<l.length∧findIdx p l s=((s+i:Nat):Int)∧p (s+i) (nth l i)=true
 | [],s=> .inl ⟨rfl,by simp⟩
 | r::l,s=>by
  unfold findIdx
  cases hp:p s r
  ·rcases O7 p l (s+1) with ⟨h1,h2⟩ | ⟨i,h1,h2,h3⟩
   ·refine .inl ⟨h1,fun i hi=> ?_⟩
    cases i with
    | zero=>exact hp
    | succ i=>
     rw[show s+(i+1)=s+1+i by omega]
     exact h2 i (by simp only[List.length_cons] at hi;omega)
   ·refine .inr ⟨i+1,by simp;omega, ?_, ?_⟩
    ·rw[cond_false,h2,show s+(i+1)=s+1+i by omega]
    ·rw[show s+(i+1)=s+1+i by omega]
     exact h3
  ·exact .inr ⟨0,by simp,rfl,hp⟩
theorem nl_ {x m:Int} (h0:0≤x) (hm:0<m):0≤Int.tmod x m∧Int.tmod x m<m:=⟨Int.tmod_nonneg _ h0,Int.tmod_lt_of_pos _ hm⟩
theorem nCg (l:Rows) (i j:Nat) (x:List DC) (hi:i<l.length):nth (l.set i x) j=if j=i then x else nth l j:=by
 simp only[nth,List.getD_eq_getElem?_getD]
 by_cases h:j=i
 ·subst h
  rw[List.getElem?_set_self hi,if_pos rfl]
  rfl
 ·rw[List.getElem?_set_ne (fun e=>h e.symm),if_neg h]
theorem nBI (a b:Bool):(bif a then b else false)=true↔a=true∧b=true:=by cases a<;>cases b<;>simp
theorem nyG {p:Nat→List DC→Bool} {l:Rows} (h:∀i,i<l.length→p i (nth l i)=false):qn p l 0=false:=by
 cases ha:qn p l 0
 ·rfl
 ·obtain⟨i,hi,h2⟩:=(nhx p l 0).1 ha
  rw[Nat.zero_add,h i hi] at h2
  cases h2
theorem nAP {p:Nat→Bool} :∀ {m i:Nat},wh p m i=false→∀j,i≤j→j<i+m→p j=false
 | 0,_,_,j,h1,h2=>by omega
 | m+1,i,h,j,h1,h2=>by
  rw[wh] at h
  cases hp:p i
  ·rw[hp] at h
   by_cases hj:j=i
   ·rw[hj];exact hp
   ·exact nAP h j (by omega) (by omega)
  ·rw[hp] at h;cases h
theorem ns7 {p:Nat→List DC→Bool} :∀ {l:Rows} {s:Nat},qn p l s=false→∀r∈l,∃i,p i r=false
 | [],_,_,r,h=>by simp at h
 | x::xs,s,h,r,hr=>by
  simp only[qn] at h
  cases hp:p s x
  ·rw[hp] at h
   rcases List.mem_cons.1 hr with rfl | hr
   ·exact⟨s,hp⟩
   ·exact ns7 h r hr
  ·rw[hp] at h
   cases h
theorem Ua {l:Rows} (h:oQ l=true):len l≤96∧∀r∈l,vM r=false:=by
 unfold oQ at h
 by_cases h9:96<len l
 ·simp [h9] at h
 ·refine⟨by omega,fun r hr=> ?_⟩
  simp only[decide_eq_false h9,cond_false] at h
  cases ha:qn (fun i r=>bif vM r then true else wh (fun j=>bif (rI (nth l j) 0)==(rI r 0) then (rI (nth l j) 1)==(rI r 1) else false) i 0) l 0
  ·obtain⟨i,hi⟩:=ns7 ha r hr
   cases hb:vM r
   ·rfl
   ·rw[hb] at hi
    cases hi
  ·rw[ha] at h
   cases h
def pgs (l:Rows):Prop:=∀i,i<l.length→∃p:Bytes,nth l i=[.str p]∧p.length=128
theorem ny6 {l:Rows} (hw:G1 (.sl [.str]) (.sl l)) (h:pF (⟨l⟩:na)=true):pgs l∧l.length≤64:=by
 unfold pF at h
 cases ha:qn (fun _ r=>(len (rS r 0)) != 128) l 0
 ·rw[show qn (fun _ r=>(len (rS r 0)) != 128) (⟨l⟩:na).nE 0=false from ha] at h
  have hl:len l≤64:=of_decide_eq_true h
  refine⟨fun i hi=> ?_,by simp only[len] at hl;omega⟩
  obtain⟨_,hw⟩:=oh hw
  have h1:=ny8 (hw (nth l i) (tI hi))
  have h2:=nyg ha i hi
  refine⟨rS (nth l i) 0,h1.symm, ?_⟩
  have h3:len (rS (nth l i) 0)=128:=by simpa using h2
  simp only[len] at h3
  omega
 ·rw[show qn (fun _ r=>(len (rS r 0)) != 128) (⟨l⟩:na).nE 0=true from ha] at h
  cases h
theorem nCO {l:Rows} (h:pgs l) (hl:l.length≤64):pF (⟨l⟩:na)=true:=by
 unfold pF
 rw[nyG (fun i hi=> ?_)]
 ·exact decide_eq_true (by simp only[len];omega)
 ·obtain⟨p,hp,h2⟩:=h i hi
  show (len (rS (nth l i) 0) != 128)=false
  rw[hp]
  show ((p.length:Int) != 128)=false
  rw[h2]
  rfl
theorem nB2 (a b:Nat):Int.tdiv (a:Int) (b:Int)=((a / b:Nat):Int):=rfl
theorem nB3 (a b:Nat):Int.tmod (a:Int) (b:Int)=((a % b:Nat):Int):=rfl
theorem nAf (a:Nat):Int.tdiv (a:Int) 128=((a / 128:Nat):Int):=nB2 a 128
theorem nAg (a:Nat):Int.tmod (a:Int) 128=((a % 128:Nat):Int):=nB3 a 128
def nki (k_:Int→α) (list_:Rows) (domain address:Int) (write:Bool):α:=
 let z0:Int:=rY list_ domain (nM (Int.tdiv address 128))
 let z1:Bool:=decide (z0<0)
 let z2:Bool:=Eb true (idx z0 list_)
 let z3:List DC:=nth list_ (Int.toNat z0)
 bif decide (address<0) then k_ (-1)
 else bif LV z1 true (LV write z2 true) then
   bif bif z1 then true else bif write then !(rB z3 3) else false then k_ (-1)
   else bif z2 then
     k_ (nM ((nM ((rI z3 2)*128))+(Int.tmod address 128)))
    else ke
  else ke
def nlD (list_:Rows) (domain address:Int):Int:=rY list_ domain (nM (Int.tdiv address 128))
def place (list_:Rows) (domain address:Int) (write:Bool):Int:=
 bif decide (address<0) then -1
 else bif bif decide (nlD list_ domain address<0) then true else bif write then !(rB (nth list_ (Int.toNat (nlD list_ domain address))) 3) else false then -1
 else nM ((nM ((rI (nth list_ (Int.toNat (nlD list_ domain address))) 2)*128))+(Int.tmod address 128))
theorem niZ (list_:Rows) (domain address:Int):nlD list_ domain address<0∨∃i:Nat,i<list_.length∧nlD list_ domain address=(i:Int)∧rI (nth list_ i) 0=domain:=by
 unfold nlD rY
 rcases O7 (fun _ r=>bif (rI r 0)==domain then (rI r 1)==(nM (Int.tdiv address 128)) else false) list_ 0 with ⟨h,_⟩ | ⟨i,h1,h2,h3⟩
 ·exact .inl (by rw[h];decide)
 ·refine .inr ⟨i,h1,by rw[h2];simp, ?_⟩
  have:=(nBI _ _).1 h3
  simpa using this.1
theorem nyV (k_:Int→α) (list_:Rows) (domain address:Int) (write:Bool) (pE:G1 (.sl [.i,.i,.i,.bool]) (.sl list_)):nki ke k_ list_ domain address write=k_ (place list_ domain address write):=by
 obtain⟨hl,_⟩:=oh pE
 unfold nki place
 refine J5 rfl ?_
 show (bif LV (decide (nlD list_ domain address<0)) true (LV write (Eb true (idx (nlD list_ domain address) list_)) true) then _ else ke)=_
 rcases niZ list_ domain address with h | ⟨i,h1,h2,_⟩
 ·have e:decide (nlD list_ domain address<0)=true:=decide_eq_true h
  have e2:∀x,LV true true x=true:=fun x=>by cases x<;>rfl
  have e':decide (rY list_ domain (nM (Int.tdiv address 128))<0)=true:=e
  simp only[e,e',e2,cond_true]
 ·have hx:idx (nlD list_ domain address) list_=true:=by rw[h2];exact nT h1
  have Ck:idx (rY list_ domain (nM (Int.tdiv address 128))) list_=true:=hx
  simp only[hx,Ck,ng,zG,cond_true]
  exact J5 rfl rfl
def Ya {α:Type} (k_:Bool→α) (m:na) (at_ n:Int):α:=
 let z0:Int:=nM ((len m.nE)*128)
 k_ (bif pF m then bif decide (0≤n) then bif decide (n≤z0) then bif decide (0≤at_) then decide (at_≤nM (z0 - n)) else false else false else false else false)
def within (m:na) (at_ n:Int):Bool:=Ya id m at_ n
theorem nwN {α:Type} (k_:Bool→α) (m:na) (at_ n:Int):Ya k_ m at_ n=k_ (within m at_ n):=by
 rfl
def nab {α:Type} (k_:Bool→α) (m:na) (at_ n:Int):α:=
 let z0:Int:=nM (128*(len m.nE))
 k_ (bif pF m then bif decide (0≤n) then bif decide (0≤at_) then bif decide (at_≤z0) then decide (n≤nM (z0 - at_)) else false else false else false else false)
theorem nov {α:Type} (k_:Bool→α) (m:na) (at_ n:Int) (h_m:kc na.ct m.enc) (ndm:G1 .i (.int at_)) (h_n:G1 .i (.int n)):nab k_ m at_ n=k_ (within m at_ n):=by
 have hn:=xG h_n
 have ha:=xG ndm
 unfold nab within Ya
 refine congrArg k_ ?_
 show (bif pF m then _ else false)=(bif pF m then _ else false)
 cases hm:pF m
 ·rfl
 ·have Ha:=(ny6 (na.Qk h_m) hm).2
  have e1:nM (128*(len m.nE))=128*(m.nE.length:Int):=by simp only[len];exact nQ (by omega) (by omega)
  have e2:nM ((len m.nE)*128)=128*(m.nE.length:Int):=by simp only[len];rw[nQ (by omega) (by omega)];omega
  simp only[e1,e2,cond_true]
  rw[Bool.eq_iff_iff]
  simp only[nBI,decide_eq_true_eq]
  constructor
  ·rintro ⟨h1,h2,h3,h4⟩
   rw[nQ (by omega) (by omega)] at h4
   refine⟨h1,by omega,h2, ?_⟩
   rw[nQ (by omega) (by omega)]
   omega
  ·rintro ⟨h1,h2,h3,h4⟩
   rw[nQ (by omega) (by omega)] at h4
   refine⟨h1,h3,by omega, ?_⟩
   rw[nQ (by omega) (by omega)]
   omega
theorem nma {l:Rows} {a n:Int} (hw:G1 (.sl [.str]) (.sl l)) (h:within (⟨l⟩:na) a n=true):pgs l∧l.length≤64∧0≤n∧0≤a∧a+n≤128*l.length:=by
 have h0:(bif pF (⟨l⟩:na) then bif decide (0≤n) then bif decide (n≤nM ((len l)*128)) then bif decide (0≤a) then decide (a≤nM (nM ((len l)*128) - n)) else false else false else false else false)=true:=h
 simp only[nBI,decide_eq_true_eq] at h0
 obtain⟨h1,h2,h3,h4,h5⟩:=h0
 obtain⟨p1,p2⟩:=ny6 hw h1
 have e:nM ((len l)*128)=128*(l.length:Int):=by simp only[len];rw[nQ (by omega) (by omega)];omega
 rw[e] at h3 h5
 rw[nQ (by omega) (by omega)] at h5
 exact⟨p1,p2,h2,h4,by omega⟩
theorem nBm {l:Rows} {a n:Nat} (hp:pgs l) (hl:l.length≤64) (h:a+n≤128*l.length):within (⟨l⟩:na) (a:Int) (n:Int)=true:=by
 have e:nM ((len l)*128)=128*(l.length:Int):=by simp only[len];rw[nQ (by omega) (by omega)];omega
 have h0:(bif pF (⟨l⟩:na) then bif decide (0≤(n:Int)) then bif decide ((n:Int)≤nM ((len l)*128)) then bif decide (0≤(a:Int)) then decide ((a:Int)≤nM (nM ((len l)*128) - (n:Int))) else false else false else false else false)=true:=by
  simp only[nBI,decide_eq_true_eq]
  refine⟨nCO hp hl,by omega,by rw[e];omega,by omega, ?_⟩
  rw[e,nQ (by omega) (by omega)]
  omega
 exact h0
def naZ (p:Bytes) (k:Nat) (s:Bytes):Bytes:=p.take k++(s.take (128 - k)++p.drop (k+min s.length (128 - k)))
def Rt (l:Rows) (a:Nat) (s:Bytes):Rows:=l.set (a / 128) [.str (naZ (rS (nth l (a / 128)) 0) (a % 128) s)]
def noG:Nat→Nat→Bytes→Rows→Rows
 | 0,_,_,l=>l
 | m+1,a,s,l=>bif decide (0<s.length) then noG m (a+min s.length (128 - a % 128)) (s.drop (min s.length (128 - a % 128))) (Rt l a s) else l
theorem nAM {p:Bytes} {k:Nat} {s:Bytes} (h:p.length=128) (hk:k≤128):(naZ p k s).length=128:=by
 simp only[naZ,List.length_append,List.length_take,List.length_drop]
 omega
theorem njx {l:Rows} {a:Nat} {s:Bytes} (h:pgs l) (ha:a / 128<l.length):pgs (Rt l a s)∧(Rt l a s).length=l.length:=by
 refine⟨fun i hi=> ?_,by simp [Rt]⟩
 unfold Rt at hi ⊢
 rw[List.length_set] at hi
 rw[nCg l (a / 128) i _ ha]
 by_cases he:i=a / 128
 ·rw[if_pos he]
  obtain⟨p,hp,h2⟩:=h (a / 128) ha
  refine⟨_,rfl, ?_⟩
  rw[hp]
  exact nAM h2 (by omega)
 ·rw[if_neg he]
  exact h i hi
theorem nAl:∀(m a:Nat) (s:Bytes) (l:Rows),pgs l→a+s.length≤128*l.length→pgs (noG m a s l)∧(noG m a s l).length=l.length
 | 0,_,_,_,h,_=>⟨h,rfl⟩
 | m+1,a,s,l,h,ha=>by
  unfold noG
  by_cases hs:0<s.length
  ·rw[decide_eq_true hs,cond_true]
   have h1:=njx (a:=a) (s:=s) h (by omega)
   have h2:=nAl m (a+min s.length (128 - a % 128)) (s.drop (min s.length (128 - a % 128))) (Rt l a s) h1.1 (by rw[h1.2,List.length_drop];omega)
   exact⟨h2.1,h2.2.trans h1.2⟩
  ·rw[decide_eq_false hs,cond_false]
   exact⟨h,rfl⟩
def tV (k_:na→Bool→α) (oD:Int→Bytes→Rows→α) (ug:Int) (tw:Bytes) (nU:Rows):α:=
 let z0:Bool:=Eb (Eb true (idx (nM (Int.tdiv ug 128)) nU)) (inl (Int.toNat (nM (Int.tdiv ug 128))) nU)
 let z1:List DC:=nth nU (Int.toNat (nM (Int.tdiv ug 128)))
 let z2:Rows:=ofStr (rS z1 0)
 let z3:Int:=cpN tw z2 (Int.toNat (Int.tmod ug 128))
 bif decide (0<len tw) then
  bif z0 then
   bif Eb (Eb true ((okL z2 (Int.tmod ug 128)) && (decide (0<List.length z2)))) (decide (Int.toNat (Int.tmod ug 128)≤List.length z2)) then
    bif z0 then
     bif Eb true (okL tw z3) then
      oD (nM (ug+z3)) (zw tw z3) (List.set nU (Int.toNat (nM (Int.tdiv ug 128))) (bQ z1 0 [.str (toStr (cpR tw z2 (Int.toNat (Int.tmod ug 128))))]))
     else ke
    else ke
   else ke
  else ke
 else k_ (⟨nU⟩:na) true
def vS (k_:na→Bool→α) (N m_:Nat):Int→Bytes→Rows→α:=
 Nat.rec (motive:=fun _=>Int→Bytes→Rows→α) (fun _ _ _=>ke) (fun _ oD=>tV ke k_ oD) m_
theorem Qn (k_:na→Bool→α) (N m_:Nat):vS ke k_ N (m_+1)=tV ke k_ (vS ke k_ N m_):=rfl
def Oi (k_:na→Bool→α) (l0:Int→Bytes→Rows→α) (m:na) (at_:Int) (s:Bytes):α:=
 bif Eb true (sb m) then
  bif !(within m at_ (len s)) then k_ (oE m) false
  else l0 at_ s ((oE m).nE)
 else ke
def UD (k_:na→Bool→α) (N:Nat) (m:na) (at_:Int) (s:Bytes):α:=Oi ke k_ (vS ke k_ N N) m at_ s
def rF (m:na) (at_:Int) (s:Bytes):Bool:=sm m.nE
def qh (m:na) (at_:Int) (s:Bytes):na×Bool:=bif !(within m at_ (len s)) then (m,false) else (⟨noG s.length at_.toNat s m.nE⟩,true)
theorem nyu (a b:Rows):toStr (a++b)=toStr a++toStr b:=by simp [toStr]
theorem nAw (s:Bytes) (n:Nat):(ofStr s).take n=ofStr (s.take n):=by simp [ofStr,List.map_take]
theorem nAv (s:Bytes) (n:Nat):(ofStr s).drop n=ofStr (s.drop n):=by simp [ofStr,List.map_drop]
theorem nBK {p s:Bytes} {k:Nat} (h:p.length=128):toStr (cpR s (ofStr p) k)=naZ p k s:=by
 unfold cpR naZ
 rw[PR,h,nyu,nyu,nAw,nAv,Sf,Sf,Sf]
theorem nhU (k_:na→Bool→α) (m:na) (at_:Int) (s:Bytes) (h_m:kc na.ct m.enc) (aJ:rF m at_ s=true):∃N,UD ke k_ N m at_ s=k_ (qh m at_ s).1 (qh m at_ s).2:=by
 have hp0:G1 (.sl [.str]) (.sl m.nE):=na.Qk h_m
 have Jb:sb m=true:=aJ
 refine⟨s.length+1, ?_⟩
 unfold UD Oi qh
 rw[show oE m=m from rfl]
 simp only[Jb,ng,cond_true]
 cases hw:within m at_ (len s)
 ·rfl
 ·obtain⟨p1,p2,p3,p4,p5⟩:=nma hp0 hw
  obtain⟨a,rfl⟩:=Int.eq_ofNat_of_zero_le p4
  simp only[Bool.not_true,cond_false,Int.toNat_natCast]
  have key:∀(q n a:Nat) (s:Bytes) (l:Rows),s.length≤q→q<n→pgs l→l.length≤64→a+s.length≤128*l.length→vS ke k_ (s.length+1) n (a:Int) s l=k_ (⟨noG q a s l⟩:na) true:=by
   intro q
   induction q with
   | zero=>
    intro n a s l h1 h2 h3 h4 h5
    obtain⟨n,rfl⟩:∃q,n=q+1:=⟨n - 1,by omega⟩
    have:s=[]:=List.length_eq_zero_iff.1 (by omega)
    subst this
    rw[Qn]
    simp only[tV,show decide (0<len ([]:Bytes))=false by decide,cond_false,noG]
   | succ q ih=>
    intro n a s l h1 h2 h3 h4 h5
    obtain⟨n,rfl⟩:∃q,n=q+1:=⟨n - 1,by omega⟩
    rw[Qn]
    by_cases hs:0<s.length
    ·have hd:decide (0<len s)=true:=decide_eq_true (by simp only[len];omega)
     have hpg:a / 128<l.length:=by omega
     obtain⟨p,e1,e2⟩:=h3 (a / 128) hpg
     have w1:nM (((a / 128:Nat):Int))=((a / 128:Nat):Int):=nQ (by omega) (by omega)
     have c1:cpN s (ofStr p) (a % 128)=((min s.length (128 - a % 128):Nat):Int):=by unfold cpN;rw[PR,e2]
     have w2:nM ((a:Int)+((min s.length (128 - a % 128):Nat):Int))=((a+min s.length (128 - a % 128):Nat):Int):=by rw[nQ (by omega) (by omega)];omega
     have g1:okL (ofStr p) (((a % 128:Nat)):Int)=true:=by simp only[okL,PR,e2,Bool.and_eq_true,decide_eq_true_eq];omega
     have g2:decide (0<List.length (ofStr p))=true:=decide_eq_true (by rw[PR];omega)
     have g3:decide (a % 128≤List.length (ofStr p))=true:=decide_eq_true (by rw[PR];omega)
     have g4:okL s ((min s.length (128 - a % 128):Nat):Int)=true:=by simp only[okL,Bool.and_eq_true,decide_eq_true_eq];omega
     have g5:zw s ((min s.length (128 - a % 128):Nat):Int)=s.drop (min s.length (128 - a % 128)):=by simp [zw]
     have st:=njx (a:=a) (s:=s) h3 hpg
     have this:=ih n (a+min s.length (128 - a % 128)) (s.drop (min s.length (128 - a % 128))) (Rt l a s) (by rw[List.length_drop];omega) (by omega) st.1 (by rw[st.2];exact h4) (by rw[st.2,List.length_drop];omega)
     have e5:Rt l a s=l.set (a / 128) [.str (naZ p (a % 128) s)]:=by unfold Rt;rw[e1];rfl
     unfold noG
     rw[decide_eq_true hs,cond_true]
     rw[e5] at this ⊢
     simp only[tV,hd,nAf,nAg,w1,nT hpg,sZ hpg,Int.toNat_natCast,e1,nAJ,c1,w2,g1,g2,g3,g4,g5,nBK e2,naW,Bool.and_self,ng,nm,cond_true]
     exact this
    ·have:s=[]:=List.length_eq_zero_iff.1 (by omega)
     subst this
     simp only[tV,show decide (0<len ([]:Bytes))=false by decide,cond_false]
     rfl
  exact key s.length (s.length+1) a s m.nE (Nat.le_refl _) (by omega) p1 p2 (by simp only[len] at p5;omega)
theorem nv5 {l:Rows} (h:pgs l) (hl:l.length≤64):G1 (.sl [.str]) (.sl l):=by
 simp only[G1]
 refine⟨l,rfl,by rw[nfI];omega,fun r hr=> ?_⟩
 obtain⟨i,hi,rfl⟩:=List.getElem_of_mem hr
 obtain⟨p,hp,h2⟩:=h i hi
 have e:l[i]=nth l i:=by simp [nth,hi]
 rw[e,hp]
 exact nAN (by simp only[G1];exact⟨p,rfl,by rw[nfI];omega⟩) nzr
theorem na1 {l:Rows} {a:Int} {s:Bytes} (h:pgs l) (hl:l.length≤64):pgs (qh (⟨l⟩:na) a s).1.nE∧(qh (⟨l⟩:na) a s).1.nE.length=l.length:=by
 unfold qh
 cases hw:within (⟨l⟩:na) a (len s)
 ·exact⟨h,rfl⟩
 ·obtain⟨_,_,p3,p4,p5⟩:=nma (nv5 h hl) hw
  exact nAl s.length a.toNat s l h (by simp only[len] at p5;omega)
def Uc (Q:Nat→Prop):Rows→Nat→Prop
 | [],n=>n=0
 | r::rs,n=>∃p k:Nat,r=[.int (p:Int),.int (k:Int)]∧1≤k∧k≤n∧p % 128+k≤128∧Q (p / 128)∧Uc Q rs (n - k)
def ni2 (list_:Rows) (domain:Int) (write:Bool) (nhm:Rows):Nat→Int→Int→Rows→Rows×Bool
 | 0,_,_,o=>(o,true)
 | m+1,a,n,o=>bif decide (0<n) then
   bif bif decide (place list_ domain a write<0) then true else !(within (⟨nhm⟩:na) (place list_ domain a write) (vw n (nM (128 - Int.tmod a 128)))) then ([],false)
   else bif bif decide (nM (a+vw n (nM (128 - Int.tmod a 128)))<0) then decide (0<nM (n - vw n (nM (128 - Int.tmod a 128)))) else false then ([],false)
   else ni2 list_ domain write nhm m (nM (a+vw n (nM (128 - Int.tmod a 128)))) (nM (n - vw n (nM (128 - Int.tmod a 128)))) (o++[[.int (place list_ domain a write),.int (vw n (nM (128 - Int.tmod a 128)))]])
  else (o,true)
theorem nuX {a n:Int} (ha:0≤a) (hn:0<n) (h4:n≤4096):1≤vw n (nM (128 - Int.tmod a 128))∧vw n (nM (128 - Int.tmod a 128))≤n∧Int.tmod a 128+vw n (nM (128 - Int.tmod a 128))≤128∧nM (n - vw n (nM (128 - Int.tmod a 128)))=n - vw n (nM (128 - Int.tmod a 128)):=by
 have r:=nl_ (x:=a) (m:=128) ha (by omega)
 rw[nQ (n:=128 - Int.tmod a 128) (by omega) (by omega)]
 unfold vw
 split
 ·refine⟨by omega,by omega,by omega,nQ (by omega) (by omega)⟩
 ·refine⟨by omega,by omega,by omega,nQ (by omega) (by omega)⟩
def sa (list_:Rows) (m:na) (domain at_ n:Int) (write:Bool):Rows×Bool:=
 bif bif !(oQ list_) then true else bif !(pF m) then true else !(nf n 0 4096) then ([],false)
 else bif n==0 then ([],true)
 else bif decide (at_<0) then ([],false)
 else ni2 list_ domain write m.nE (n.toNat+1) at_ n []
def Py (k_:Rows→Bool→α) (list_:Rows) (domain:Int) (write:Bool) (qH:Rows) (oD:Int→Int→Rows→α) (ug n_1:Int) (nV:Rows):α:=
 let z0:Int:=vw n_1 (nM (128 - (Int.tmod ug 128)))
 let z1:Int:=nM (ug+z0)
 let z2:Int:=nM (n_1 - z0)
 bif decide (0<n_1) then
  bif bif decide (place list_ domain ug write<0) then true else !(within (⟨qH⟩:na) (place list_ domain ug write) z0) then k_ [] false
  else bif Eb true (oY 16 nV ([[.int (place list_ domain ug write),.int z0]])) then
    bif bif decide (z1<0) then decide (0<z2) else false then k_ [] false
    else oD z1 z2 (nV++([[.int (place list_ domain ug write),.int z0]]))
   else ke
 else k_ nV true
def Px (k_:Rows→Bool→α) (N:Nat) (list_:Rows) (domain:Int) (write:Bool) (qH:Rows) (m_:Nat):Int→Int→Rows→α:=
 Nat.rec (motive:=fun _=>Int→Int→Rows→α) (fun _ _ _=>ke) (fun _ oD=>Py ke k_ list_ domain write qH oD) m_
theorem nmB (k_:Rows→Bool→α) (N:Nat) (list_:Rows) (domain:Int) (write:Bool) (qH:Rows) (m_:Nat):Px ke k_ N list_ domain write qH (m_+1)=Py ke k_ list_ domain write qH (Px ke k_ N list_ domain write qH m_):=rfl
def X7 {α:Type} (ke:α) (k_:Rows→Bool→α) (l0:Rows→Int→Int→Rows→α) (list_:Rows) (m:na) (domain at_ n:Int) (write:Bool):α:=
 bif bif !(oQ list_) then true else bif !(pF m) then true else !(nf n 0 4096) then k_ [] false
 else bif n==0 then k_ [] true
 else bif decide (at_<0) then k_ [] false
 else l0 m.nE at_ n []
def ngP (k_:Rows→Bool→α) (N:Nat) (list_:Rows) (m:na) (domain at_ n:Int) (write:Bool):α:=X7 ke k_ (fun qH=>Px ke k_ N list_ domain write qH N) list_ m domain at_ n write
theorem nwG (k_:Rows→Bool→α) (list_:Rows) (m:na) (domain at_ n:Int) (write:Bool) (ndm:G1 .i (.int at_)):∃N,ngP ke k_ N list_ m domain at_ n write=k_ (sa list_ m domain at_ n write).1 (sa list_ m domain at_ n write).2:=by
 refine⟨n.toNat+2, ?_⟩
 unfold ngP X7 sa
 refine pQ (K:=fun r:Rows×Bool=>k_ r.1 r.2) (fun _=>rfl) (fun hg=>pQ (K:=fun r:Rows×Bool=>k_ r.1 r.2) (fun _=>rfl) (fun Hu=>pQ (K:=fun r:Rows×Bool=>k_ r.1 r.2) (fun _=>rfl) (fun ha=> ?_)))
 have hb:0≤n∧n≤4096:=by
  cases hc:nf n 0 4096
  ·rw[hc] at hg
   cases h1:oQ list_<;>cases h2:pF m<;>rw[h1,h2] at hg<;>cases hg
  ·exact nS.1 hc
 have ha:=of_decide_eq_false ha
 have FU:=xG ndm
 have key:∀(q N':Nat) (a n:Int) (o:Rows),n<q→q≤N'→0≤n→n≤4096→a≤9223372036854775807→(0<n→0≤a)→o.length+n.toNat≤5000→∀M,Px ke k_ M list_ domain write m.nE N' a n o=k_ (ni2 list_ domain write m.nE q a n o).1 (ni2 list_ domain write m.nE q a n o).2:=by
  intro q
  induction q with
  | zero=>intro N' a n o h1 h2 h3;omega
  | succ q ih=>
   intro N' a n o h1 h2 h3 h4 h7 h5 h6 M
   obtain⟨N',rfl⟩:∃p,N'=p+1:=⟨N' - 1,by omega⟩
   rw[nmB]
   by_cases hn:0<n
   ·obtain⟨r1,r2,r3,r4⟩:=nuX (h5 hn) hn h4
    have hr:∀x:List DC,oY 16 o [x]=true:=fun x=>ry (by simp only[List.length_cons,List.length_nil];omega) (by omega)
    unfold ni2
    simp only[Py,decide_eq_true hn,hr,ng,cond_true]
    refine pQ (K:=fun r:Rows×Bool=>k_ r.1 r.2) (fun _=>rfl) (fun _=>pQ (K:=fun r:Rows×Bool=>k_ r.1 r.2) (fun _=>rfl) (fun hov=> ?_))
    rw[r4] at hov ⊢
    refine ih N' _ _ _ (by omega) (by omega) (by omega) (by omega) (nB5 _) (fun hp=> ?_) (by simp only[List.length_append,List.length_cons,List.length_nil];omega) M
    rw[decide_eq_true hp] at hov
    have hov:decide (nM (a+vw n (nM (128 - Int.tmod a 128)))<0)=false:=by
     cases hd:decide (nM (a+vw n (nM (128 - Int.tmod a 128)))<0)
     ·rfl
     ·rw[hd] at hov;cases hov
    have:=of_decide_eq_false hov
    omega
   ·unfold ni2
    simp only[Py,decide_eq_false hn,cond_false]
 exact key (n.toNat+1) (n.toNat+2) at_ n [] (by omega) (by omega) hb.1 hb.2 FU.2 (fun _=>by omega) (by simp only[List.length_nil];omega) _
theorem Uc.len {Q:Nat→Prop} :∀ {l:Rows} {n:Nat},Uc Q l n→l.length≤n
 | [],_,_=>Nat.zero_le _
 | r::rs,n,⟨p,k,_,h1,h2,_,_,h3⟩=>by
  have:=h3.len
  simp only[List.length_cons]
  omega
theorem Uc.imp {Q Q':Nat→Prop} (h:∀i,Q i→Q' i):∀ {l:Rows} {n:Nat},Uc Q l n→Uc Q' l n
 | [],_,h0=>h0
 | r::rs,n,⟨p,k,e,h1,h2,h3,h4,h5⟩=>⟨p,k,e,h1,h2,h3,h _ h4,h5.imp h⟩
theorem nzX {list_:Rows} (hM:oQ list_=true) {domain a:Int} {write:Bool} (ha:0≤a):place list_ domain a write<0∨∃i:Nat,i<list_.length∧rI (nth list_ i) 0=domain∧0≤rI (nth list_ i) 2∧rI (nth list_ i) 2≤63∧
  place list_ domain a write=rI (nth list_ i) 2*128+Int.tmod a 128:=by
 unfold place
 rw[decide_eq_false (show ¬a<0 by omega),cond_false]
 rcases niZ list_ domain a with h | ⟨i,h1,h2,h3⟩
 ·rw[decide_eq_true h]
  exact .inl (show (-1:Int)<0 by decide)
 ·rw[h2,Int.toNat_natCast]
  cases (bif decide ((i:Int)<0) then true else bif write then !(rB (nth list_ i) 3) else false)
  ·have hb:=(Ua hM).2 (nth list_ i) (tI h1)
   have hp:nf (rI (nth list_ i) 2) 0 63=true:=by
    unfold vM at hb
    cases h4:nf (rI (nth list_ i) 2) 0 63
    ·rw[h4] at hb
     revert hb
     cases nf (rI (nth list_ i) 0) 0 7<;>cases nf (rI (nth list_ i) 1) 0 1023<;>simp
    ·rfl
   have hp:=nS.1 hp
   have r:=nl_ (x:=a) (m:=128) ha (by omega)
   refine .inr ⟨i,h1,h3,hp.1,hp.2, ?_⟩
   rw[cond_false,nQ (n:=rI (nth list_ i) 2*128) (by omega) (by omega),nQ (by omega) (by omega)]
  ·exact .inl (show (-1:Int)<0 by decide)
theorem nyq {list_ nhm:Rows} (hM:oQ list_=true) {domain:Int} {write:Bool} :∀(q:Nat) (a n:Int) (o:Rows),n<q→0≤n→n≤4096→(0<n→0≤a)→(ni2 list_ domain write nhm q a n o).2=true→
  ∃rs,(ni2 list_ domain write nhm q a n o).1=o++rs∧Uc (fun p=>∃i:Nat,i<list_.length∧rI (nth list_ i) 0=domain∧rI (nth list_ i) 2=(p:Int)) rs n.toNat
 | 0,a,n,o,h1,h2,_,_,_=>by omega
 | q+1,a,n,o,h1,h2,h3,h4,h5=>by
  unfold ni2 at h5 ⊢
  by_cases hn:0<n
  ·rw[decide_eq_true hn,cond_true] at h5 ⊢
   have ha:=h4 hn
   obtain⟨r1,r2,r3,r4⟩:=nuX ha hn h3
   cases hc:(bif decide (place list_ domain a write<0) then true else !(within (⟨nhm⟩:na) (place list_ domain a write) (vw n (nM (128 - Int.tmod a 128)))))
   ·rw[hc,cond_false] at h5
    rw[cond_false]
    cases hov:(bif decide (nM (a+vw n (nM (128 - Int.tmod a 128)))<0) then decide (0<nM (n - vw n (nM (128 - Int.tmod a 128)))) else false)
    ·rw[hov,cond_false] at h5
     rw[cond_false]
     rw[r4] at h5 hov ⊢
     obtain⟨rs,e1,e2⟩:=nyq hM q _ _ _ (by omega) (by omega) (by omega) (fun hp=>by
      rw[decide_eq_true hp] at hov
      have hov:decide (nM (a+vw n (nM (128 - Int.tmod a 128)))<0)=false:=by
       cases hd:decide (nM (a+vw n (nM (128 - Int.tmod a 128)))<0)
       ·rfl
       ·rw[hd] at hov;cases hov
      have:=of_decide_eq_false hov
      omega) h5
     refine⟨[.int (place list_ domain a write),.int (vw n (nM (128 - Int.tmod a 128)))]::rs,by rw[e1,List.append_assoc];rfl, ?_⟩
     rcases nzX hM (domain:=domain) (write:=write) ha with nC6 | ⟨i,i1,i2,i3,i4,i5⟩
     ·rw[decide_eq_true nC6] at hc
      cases hc
     ·have r:=nl_ (x:=a) (m:=128) ha (by omega)
      have hdiv:(place list_ domain a write).toNat / 128=(rI (nth list_ i) 2).toNat∧(place list_ domain a write).toNat % 128=(Int.tmod a 128).toNat:=by
       rw[i5]
       omega
      refine⟨(place list_ domain a write).toNat,(vw n (nM (128 - Int.tmod a 128))).toNat, ?_,by omega,by omega,by rw[hdiv.2];omega,⟨i,i1,i2,by rw[hdiv.1];omega⟩, ?_⟩
      ·rw[Int.toNat_of_nonneg (by rw[i5];omega),Int.toNat_of_nonneg (by omega)]
      ·have:(n - vw n (nM (128 - Int.tmod a 128))).toNat=n.toNat - (vw n (nM (128 - Int.tmod a 128))).toNat:=by omega
       rw[←this]
       exact e2
    ·rw[hov] at h5
     cases h5
   ·rw[hc] at h5
    cases h5
  ·rw[decide_eq_false hn,cond_false] at h5 ⊢
   refine⟨[],by simp, ?_⟩
   show n.toNat=0
   omega
theorem nB0 {list_:Rows} {m:na} {domain at_ n:Int} {write:Bool} (hw:G1 (.sl [.str]) (.sl m.nE)) (h:(sa list_ m domain at_ n write).2=true):
  pgs m.nE∧m.nE.length≤64∧Uc (fun p=>∃i:Nat,i<list_.length∧rI (nth list_ i) 0=domain∧rI (nth list_ i) 2=(p:Int)) (sa list_ m domain at_ n write).1 n.toNat∧n≤4096:=by
 unfold sa at h ⊢
 cases hM:oQ list_
 ·rw[hM] at h;cases h
 cases hm:pF m
 ·rw[hM,hm] at h;cases h
 cases hb:nf n 0 4096
 ·rw[hM,hm,hb] at h;cases h
 have hb:=nS.1 hb
 obtain⟨p1,p2⟩:=ny6 hw hm
 rw[hM,hm,show nf n 0 4096=true from nS.2 hb] at h
 simp only[Bool.not_true,cond_false] at h ⊢
 refine⟨p1,p2, ?_,hb.2⟩
 by_cases h0:n=0
 ·subst h0
  exact rfl
 ·rw[show (n==0)=false by simpa using h0,cond_false] at h ⊢
  by_cases ha:at_<0
  ·rw[decide_eq_true ha] at h;cases h
  ·rw[decide_eq_false ha,cond_false] at h ⊢
   obtain⟨rs,e1,e2⟩:=nyq hM (n.toNat+1) at_ n [] (by omega) hb.1 hb.2 (fun _=>by omega) h
   rw[e1]
   exact e2
theorem noW {list_:Rows} {m:na} {domain at_ n:Int} {write:Bool} (hw:G1 (.sl [.str]) (.sl m.nE)) (h:(sa list_ m domain at_ n write).2=true):
  pgs m.nE∧m.nE.length≤64∧Uc (fun _=>True) (sa list_ m domain at_ n write).1 n.toNat∧(sa list_ m domain at_ n write).1.length≤5000:=by
 obtain⟨a,b,c,d⟩:=nB0 hw h
 have:=c.len
 exact⟨a,b,c.imp (fun _ _=>trivial),by omega⟩
def nxK:Rows→Bytes→Rows→Rows
 | [],_,l=>l
 | r::rs,s,l=>nxK rs (s.drop (Int.toNat (rI r 1))) (qh (⟨l⟩:na) (rI r 0) (s.take (Int.toNat (rI r 1)))).1.nE
def WS (k_:na→Bool→α) (x:Int) (oc:Rows) (oD:Bytes→Int→Rows→α) (tw:Bytes) (nX:Int) (nU:Rows):α:=
 let z0:Bytes:=ym tw (rI (nth oc (Int.toNat nX)) 1)
 bif decide (nX<x) then
  bif Eb (Eb true (idx nX oc)) (inl (Int.toNat nX) oc) then
   bif Eb (Eb true (okH tw (rI (nth oc (Int.toNat nX)) 1))) (rF (⟨nU⟩:na) (rI (nth oc (Int.toNat nX)) 0) z0) then
    bif Eb true (okL tw (rI (nth oc (Int.toNat nX)) 1)) then
     oD (zw tw (rI (nth oc (Int.toNat nX)) 1)) (nM (nX+1)) (((qh (⟨nU⟩:na) (rI (nth oc (Int.toNat nX)) 0) z0).1).nE)
    else ke
   else ke
  else ke
 else k_ (⟨nU⟩:na) true
def WR (k_:na→Bool→α) (N:Nat) (x:Int) (oc:Rows) (m_:Nat):Bytes→Int→Rows→α:=
 Nat.rec (motive:=fun _=>Bytes→Int→Rows→α) (fun _ _ _=>ke) (fun _ oD=>WS ke k_ x oc oD) m_
theorem ngI (k_:na→Bool→α) (N:Nat) (x:Int) (oc:Rows) (m_:Nat):WR ke k_ N x oc (m_+1)=WS ke k_ x oc (WR ke k_ N x oc m_):=rfl
def naA (k_:na→Bool→α) (l0:Int→Rows→Bytes→Int→Rows→α) (list_:Rows) (m:na) (domain at_:Int) (s:Bytes) (write:Bool):α:=
 let z0:Rows×Bool:=sa list_ m domain at_ (len s) write
 bif Eb true (sb m) then
  bif !z0.2 then k_ (oE m) false
  else l0 (len z0.1) z0.1 s 0 ((oE m).nE)
 else ke
def ntS (k_:na→Bool→α) (N:Nat) (list_:Rows) (m:na) (domain at_:Int) (s:Bytes) (write:Bool):α:=naA ke k_ (fun x oc=>WR ke k_ N x oc N) list_ m domain at_ s write
def noa (list_:Rows) (m:na) (domain at_:Int) (s:Bytes) (write:Bool):Bool:=sm m.nE
def put (list_:Rows) (m:na) (domain at_:Int) (s:Bytes) (write:Bool):na×Bool:=
 bif !(sa list_ m domain at_ (len s) write).2 then (m,false) else (⟨nxK (sa list_ m domain at_ (len s) write).1 s m.nE⟩,true)
theorem nAs (k_:na→Bool→α) (list_:Rows) (m:na) (domain at_:Int) (s:Bytes) (write:Bool) (h_m:kc na.ct m.enc) (RQ:G1 .str (.str s)) (aJ:noa list_ m domain at_ s write=true):∃N,ntS ke k_ N list_ m domain at_ s write=k_ (put list_ m domain at_ s write).1 (put list_ m domain at_ s write).2:=by
 have hp0:G1 (.sl [.str]) (.sl m.nE):=na.Qk h_m
 have Jb:sb m=true:=aJ
 have Mt:=OC RQ
 refine⟨(sa list_ m domain at_ (len s) write).1.length+1, ?_⟩
 unfold ntS naA put
 rw[show oE m=m from rfl]
 simp only[Jb,ng,cond_true]
 cases hr:(sa list_ m domain at_ (len s) write).2
 ·rfl
 ·obtain⟨g1,g2,g3⟩:=noW hp0 hr
  simp only[Bool.not_true,cond_false]
  generalize (sa list_ m domain at_ (len s) write).1=R at g3 ⊢
  have key:∀(q n i:Nat) (s:Bytes) (l:Rows),i+q=R.length→q<n→Uc (fun _=>True) (R.drop i) s.length→pgs l→l.length≤64→R.length≤5000→
    WR ke k_ (R.length+1) (len R) R n s (i:Int) l=k_ (⟨nxK (R.drop i) s l⟩:na) true:=by
   intro q
   induction q with
   | zero=>
    intro n i s l h1 h2 h3 h4 h5 h6
    obtain⟨n,rfl⟩:∃q,n=q+1:=⟨n - 1,by omega⟩
    rw[ngI,List.drop_eq_nil_of_le (by omega)]
    have hf:decide ((i:Int)<len R)=false:=decide_eq_false (by simp only[len];omega)
    simp only[WS,hf,cond_false,nxK]
   | succ q ih=>
    intro n i s l h1 h2 h3 h4 h5 h6
    obtain⟨n,rfl⟩:∃q,n=q+1:=⟨n - 1,by omega⟩
    have hi:i<R.length:=by omega
    have e0:R[i]=nth R i:=by simp [nth,hi]
    rw[List.drop_eq_getElem_cons hi,e0] at h3 ⊢
    obtain⟨p,k,e1,k1,k2,k3,_,k4⟩:=h3
    rw[ngI]
    have w1:nM ((i:Int)+1)=((i+1:Nat):Int):=by rw[nQ (by omega) (by omega)];omega
    have x1:okH s (k:Int)=true:=by simp only[okH,Bool.and_eq_true,decide_eq_true_eq];omega
    have x2:okL s (k:Int)=true:=by simp only[okL,Bool.and_eq_true,decide_eq_true_eq];omega
    have x3:ym s (k:Int)=s.take k:=by simp [ym]
    have x4:zw s (k:Int)=s.drop k:=by simp [zw]
    have x5:∀a b,rF (⟨l⟩:na) a b=true:=fun a b=>by
     unfold rF sm
     exact decide_eq_true (by show l.length≤16777216;omega)
    have r1:rI [DC.int (p:Int),DC.int (k:Int)] 0=(p:Int):=rfl
    have r2:rI [DC.int (p:Int),DC.int (k:Int)] 1=(k:Int):=rfl
    have wp:=na1 (a:=(p:Int)) (s:=s.take k) h4 h5
    have this:=ih n (i+1) (s.drop k) (qh (⟨l⟩:na) (p:Int) (s.take k)).1.nE (by omega) (by omega) (by rw[List.length_drop];exact k4) wp.1 (by rw[wp.2];exact h5) h6
    simp only[WS,oL hi,nT hi,sZ hi,Int.toNat_natCast,e1,r1,r2,x1,x2,x3,x4,x5,w1,ng,nm,cond_true,nxK]
    exact this
  exact key R.length (R.length+1) 0 s m.nE (by omega) (by omega) (by have h:=g3.1;rw[show (len s).toNat=s.length by simp [len]] at h;exact h) g1 g2 g3.2
def na7 (k_:na→Bool→α) (list_:Rows) (m:na) (domain at_:Int) (s:Bytes):α:=
 let z0:na×Bool:=put list_ m domain at_ s true
 bif Eb true (noa list_ m domain at_ s true) then
  k_ z0.1 z0.2
 else ke
def ua (list_:Rows) (m:na) (domain at_:Int) (s:Bytes):Bool:=sm m.nE
def rD (list_:Rows) (m:na) (domain at_:Int) (s:Bytes):na×Bool:=put list_ m domain at_ s true
theorem npg (k_:na→Bool→α) (list_:Rows) (m:na) (domain at_:Int) (s:Bytes) (aJ:ua list_ m domain at_ s=true):na7 ke k_ list_ m domain at_ s=k_ (rD list_ m domain at_ s).1 (rD list_ m domain at_ s).2:=by
 have h:noa list_ m domain at_ s true=true:=aJ
 unfold na7 rD
 simp only[h,ng,cond_true]
theorem no4 {l:Rows} (hp:pgs l) (hl:l.length≤64) {a n:Int} :within (⟨l⟩:na) a n=true↔0≤n∧0≤a∧a+n≤128*l.length:=by
 constructor
 ·intro h
  obtain⟨_,_,h1,h2,h3⟩:=nma (nv5 hp hl) h
  exact⟨h1,h2,h3⟩
 ·rintro ⟨h1,h2,h3⟩
  obtain⟨n,rfl⟩:=Int.eq_ofNat_of_zero_le h1
  obtain⟨a,rfl⟩:=Int.eq_ofNat_of_zero_le h2
  exact nBm hp hl (by omega)
theorem nAk {l:Rows} (hp:pgs l) (hl:l.length≤64) {p o k:Int} (h0:0≤p) (o0:0≤o) (k1:1≤k) (hk:o+k≤128):within (⟨l⟩:na) (p*128+o) k=within (⟨l⟩:na) (p*128) 128:=by
 rw[Bool.eq_iff_iff,no4 hp hl,no4 hp hl]
 omega
def nAu (domain oV:Int) (write:Bool) (r:List DC):Bool:=bif (rI r 0)==domain then bif (rI r 1)==oV then bif rB r 3 then true else !write else false else false
def nAU (list_:Rows) (domain oV:Int) (write:Bool):Int:=findIdx (fun _ r=>nAu domain oV write r) list_ 0
def N_ (k_:Int→α) (list_:Rows) (domain oV:Int) (write:Bool) (oD:Int→α) (k:Int):α:=
 let z0:Bool:=(rI (nth list_ (Int.toNat k)) 0)==domain
 let z1:Bool:=(rI (nth list_ (Int.toNat k)) 1)==oV
 let z2:Bool:=Eb (Eb true (idx k list_)) (idx k list_)
 let z3:Bool:=Eb z2 (idx k list_)
 bif decide (k<len list_) then
  bif LV z0 (LV z1 (LV (rB (nth list_ (Int.toNat k)) 3) z3 z3) z2) (Eb true (idx k list_)) then
   bif bif z0 then bif z1 then bif rB (nth list_ (Int.toNat k)) 3 then true else !write else false else false then
    bif Eb true (idx k list_) then
     k_ (rI (nth list_ (Int.toNat k)) 2)
    else ke
   else oD (nM (k+1))
  else ke
 else k_ (-1)
def N9 (k_:Int→α) (N:Nat) (list_:Rows) (domain oV:Int) (write:Bool) (m_:Nat):Int→α:=
 Nat.rec (motive:=fun _=>Int→α) (fun _=>ke) (fun _ oD=>N_ ke k_ list_ domain oV write oD) m_
theorem XT (k_:Int→α) (N:Nat) (list_:Rows) (domain oV:Int) (write:Bool) (m_:Nat):N9 ke k_ N list_ domain oV write (m_+1)=N_ ke k_ list_ domain oV write (N9 ke k_ N list_ domain oV write m_):=rfl
def Wf {α:Type} (ke:α) (k_ l0:Int→α) (list_:Rows) (domain oV:Int) (write:Bool):α:=
 l0 0
def nfd (k_:Int→α) (N:Nat) (list_:Rows) (domain oV:Int) (write:Bool):α:=Wf ke k_ (N9 ke k_ N list_ domain oV write N) list_ domain oV write
def vZ (list_:Rows) (domain oV:Int) (write:Bool):Int:=bif decide (nAU list_ domain oV write<0) then -1 else rI (nth list_ (Int.toNat (nAU list_ domain oV write))) 2
theorem nvO (k_:Int→α) (list_:Rows) (domain oV:Int) (write:Bool) (pE:G1 (.sl [.i,.i,.i,.bool]) (.sl list_)):∃N,nfd ke k_ N list_ domain oV write=k_ (vZ list_ domain oV write):=by
 obtain⟨hl,_⟩:=oh pE
 refine⟨list_.length+1, ?_⟩
 unfold nfd Wf vZ
 refine (qS list_ (N9 ke k_ (list_.length+1) list_ domain oV write) (fun i r c=>bif nAu domain oV write r then k_ (bif decide ((i:Int)<0) then -1 else rI (nth list_ (Int.toNat (i:Int))) 2) else c) (k_ (-1)) ?_ ?_).trans ?_
 ·intro n i h
  rw[XT]
  have h0:decide ((i:Int)<0)=false:=decide_eq_false (by omega)
  simp only[N_,oL h,nT h,oa h hl,Int.toNat_natCast,ng,nm,zG,cond_true,h0,cond_false]
  rfl
 ·intro n
  rw[XT]
  simp only[N_,nN,cond_false]
 ·exact nar (fun _ r=>nAu domain oV write r) (fun x=>k_ (bif decide (x<0) then -1 else rI (nth list_ (Int.toNat x)) 2)) list_ 0
theorem ns2 {l:Rows} (h:oQ l=true) {i j:Nat} (hi:i<l.length) (hj:j<l.length) (h0:rI (nth l i) 0=rI (nth l j) 0) (h1:rI (nth l i) 1=rI (nth l j) 1):i=j:=by
 have key:∀i j:Nat,i<l.length→j<i→rI (nth l j) 0=rI (nth l i) 0→rI (nth l j) 1=rI (nth l i) 1→False:=by
  intro i j hi hj h0 h1
  unfold oQ at h
  by_cases h9:96<len l
  ·simp [h9] at h
  simp only[decide_eq_false h9,cond_false] at h
  cases ha:qn (fun i r=>bif vM r then true else wh (fun j=>bif (rI (nth l j) 0)==(rI r 0) then (rI (nth l j) 1)==(rI r 1) else false) i 0) l 0
  ·have h2:=nyg ha i hi
   rw[Nat.zero_add] at h2
   cases hb:vM (nth l i)
   ·rw[hb,cond_false] at h2
    have h3:=nAP h2 j (Nat.zero_le _) (by omega)
    rw[h0,h1] at h3
    simp at h3
   ·rw[hb] at h2
    cases h2
  ·rw[ha] at h
   cases h
 rcases Nat.lt_trichotomy i j with h2 | h2 | h2
 ·exact (key j i hj h2 h0 h1).elim
 ·exact h2
 ·exact (key i j hi h2 h0.symm h1.symm).elim
theorem nBe {l:Rows} (hM:oQ l=true) {d a:Int} {w:Bool} (ha:0≤a):place l d a w=bif decide (vZ l d (nM (Int.tdiv a 128)) w<0) then -1 else nM (nM (vZ l d (nM (Int.tdiv a 128)) w*128)+Int.tmod a 128):=by
 unfold place
 rw[decide_eq_false (show ¬a<0 by omega),cond_false]
 have hT:∀r,nAu d (nM (Int.tdiv a 128)) w r=true↔(rI r 0=d∧rI r 1=nM (Int.tdiv a 128))∧(rB r 3=true∨w=false):=by
  intro r
  unfold nAu
  by_cases h0:rI r 0=d
  ·by_cases h1:rI r 1=nM (Int.tdiv a 128)
   ·cases rB r 3<;>cases w<;>simp [h0,h1]
   ·simp [h0,h1]
  ·simp [h0]
 have ip:∀i,0≤rI (nth l i) 2∨¬i<l.length:=by
  intro i
  by_cases hi:i<l.length
  ·have hb:=(Ua hM).2 (nth l i) (tI hi)
   unfold vM at hb
   cases h4:nf (rI (nth l i) 2) 0 63
   ·rw[h4] at hb
    revert hb
    cases nf (rI (nth l i) 0) 0 7<;>cases nf (rI (nth l i) 1) 0 1023<;>simp
   ·exact .inl (nS.1 h4).1
  ·exact .inr hi
 have hq:=O7 (fun _ r=>nAu d (nM (Int.tdiv a 128)) w r) l 0
 have hp:=O7 (fun _ r=>bif (rI r 0)==d then (rI r 1)==(nM (Int.tdiv a 128)) else false) l 0
 have e1:nlD l d a=findIdx (fun _ r=>bif (rI r 0)==d then (rI r 1)==(nM (Int.tdiv a 128)) else false) l 0:=rfl
 unfold vZ nAU
 rw[e1]
 rcases hp with ⟨p1,p2⟩ | ⟨i,i1,i2,i3⟩
 ·rw[p1]
  rcases hq with ⟨q1,_⟩ | ⟨j,j1,_,j3⟩
  ·rw[q1];rfl
  ·have h2:=p2 j j1
   have h3:=((hT _).1 j3).1
   simp [h3.1,h3.2] at h2
 ·rw[i2]
  have hi3:rI (nth l i) 0=d∧rI (nth l i) 1=nM (Int.tdiv a 128):=by simpa [nBI] using i3
  simp only[Nat.zero_add,Int.toNat_natCast,decide_eq_false (show ¬((i:Int)<0) by omega),cond_false]
  rcases hq with ⟨q1,q2⟩ | ⟨j,j1,j2,j3⟩
  ·rw[q1]
   have h2:=q2 i i1
   have h3:¬(rB (nth l i) 3=true∨w=false):=fun h=>by
    rw[(hT _).2 ⟨hi3,h⟩] at h2
    cases h2
   rw[not_or] at h3
   cases w
   ·exact absurd rfl h3.2
   ·simp only[h3.1,cond_true,Bool.not_eq_true _ ▸ (by simpa using h3.1:rB (nth l i) 3=false),Bool.not_false]
    rfl
  ·have h3:=(hT _).1 j3
   have hij:i=j:=ns2 hM i1 j1 (hi3.1.trans h3.1.1.symm) (hi3.2.trans h3.1.2.symm)
   subst hij
   rw[j2]
   simp only[Nat.zero_add,Int.toNat_natCast,decide_eq_false (show ¬((i:Int)<0) by omega),cond_false]
   have hn:=(ip i).resolve_right (by omega)
   rw[decide_eq_false (show ¬rI (nth l i) 2<0 by omega),cond_false]
   have hc:(bif w then !(rB (nth l i) 3) else false)=false:=by
    rcases h3.2 with h4 | h4
    ·rw[h4];cases w<;>rfl
    ·rw[h4];rfl
   rw[hc,cond_false]
theorem nCe {l:Rows} (hM:oQ l=true) (d v:Int) (w:Bool):vZ l d v w= -1∨(0≤vZ l d v w∧vZ l d v w≤63):=by
 unfold vZ nAU
 rcases O7 (fun _ r=>nAu d v w r) l 0 with ⟨q1,_⟩ | ⟨j,j1,j2,j3⟩
 ·rw[q1];exact .inl rfl
 ·rw[j2]
  simp only[Nat.zero_add,Int.toNat_natCast,decide_eq_false (show ¬((j:Int)<0) by omega),cond_false]
  have hb:=(Ua hM).2 (nth l j) (tI j1)
  unfold vM at hb
  cases h4:nf (rI (nth l j) 2) 0 63
  ·rw[h4] at hb
   revert hb
   cases nf (rI (nth l j) 0) 0 7<;>cases nf (rI (nth l j) 1) 0 1023<;>simp
  ·exact .inr (nS.1 h4)
theorem nyl (q:List DC→List DC):∀(l o:Rows),l.foldl (fun o r=>o++[q r]) o=o++l.map q
 | [],o=>by simp
 | r::rs,o=>by rw[List.foldl_cons,nyl q rs];simp
def pF0 (r:List DC):List DC:=[.int (rI r 0)]
def pF1 (r:List DC):List DC:=[.int (rI r 1)]
theorem nsS (f:List DC→List DC) {l:Rows} {i:Nat} (h:i<l.length):nth (l.map f) i=f (nth l i):=by
 simp [nth,List.getD_eq_getElem?_getD,h]
def wD (k_:Rows→Rows→Bool→α) (list_:Rows) (domain:Int) (write:Bool) (qH:Rows) (oD:Int→Int→Rows→Rows→α) (ug n_1:Int) (starts rb:Rows):α:=
 let z0:Int:=bif decide (0≤ug) then vZ list_ domain (nM (Int.tdiv ug 128)) write else (-1)
 let z1:Int:=vw n_1 (nM (128 - (Int.tmod ug 128)))
 bif decide (0<n_1) then
  bif bif decide (z0<0) then true else !(within (⟨qH⟩:na) (nM (z0*128)) 128) then k_ [] [] false
  else bif Eb true (oY 8 starts ([[.int (nM ((nM (z0*128))+(Int.tmod ug 128)))]])) then
    bif Eb true (oY 8 rb ([[.int z1]])) then
     oD (nM (ug+z1)) (nM (n_1 - z1)) (starts++([[.int (nM ((nM (z0*128))+(Int.tmod ug 128)))]])) (rb++([[.int z1]]))
    else ke
   else ke
 else k_ starts rb true
def zt (k_:Rows→Rows→Bool→α) (N:Nat) (list_:Rows) (domain:Int) (write:Bool) (qH:Rows) (m_:Nat):Int→Int→Rows→Rows→α:=
 Nat.rec (motive:=fun _=>Int→Int→Rows→Rows→α) (fun _ _ _ _=>ke) (fun _ oD=>wD ke k_ list_ domain write qH oD) m_
theorem njw (k_:Rows→Rows→Bool→α) (N:Nat) (list_:Rows) (domain:Int) (write:Bool) (qH:Rows) (m_:Nat):zt ke k_ N list_ domain write qH (m_+1)=wD ke k_ list_ domain write qH (zt ke k_ N list_ domain write qH m_):=rfl
def Tb {α:Type} (ke:α) (k_:Rows→Rows→Bool→α) (l0:Rows→Int→Int→Rows→Rows→α) (list_:Rows) (m:na) (domain at_ n:Int) (write:Bool):α:=
 bif bif !(oQ list_) then true else bif !(pF m) then true else !(nf n 0 4096) then k_ [] [] false
 else l0 m.nE at_ n [] []
def nc2 (k_:Rows→Rows→Bool→α) (N:Nat) (list_:Rows) (m:na) (domain at_ n:Int) (write:Bool):α:=Tb ke k_ (fun qH=>zt ke k_ N list_ domain write qH N) list_ m domain at_ n write
def PB (list_:Rows) (m:na) (domain at_ n:Int) (write:Bool):Rows×Rows×Bool:=
 ((sa list_ m domain at_ n write).1.map pF0,(sa list_ m domain at_ n write).1.map pF1,(sa list_ m domain at_ n write).2)
theorem nsJ (k_:Rows→Rows→Bool→α) (list_:Rows) (m:na) (domain at_ n:Int) (write:Bool) (h_m:kc na.ct m.enc) (ndm:G1 .i (.int at_)):∃N,nc2 ke k_ N list_ m domain at_ n write=k_ (PB list_ m domain at_ n write).1 (PB list_ m domain at_ n write).2.1 (PB list_ m domain at_ n write).2.2:=by
 have hp0:G1 (.sl [.str]) (.sl m.nE):=na.Qk h_m
 have FU:=xG ndm
 refine⟨n.toNat+2, ?_⟩
 unfold nc2 Tb PB sa
 refine pQ (K:=fun r:Rows×Bool=>k_ (r.1.map pF0) (r.1.map pF1) r.2) (fun _=>rfl) (fun hg=> ?_)
 have hM:oQ list_=true:=by
  cases hM:oQ list_
  ·rw[hM] at hg;cases hg
  ·rfl
 have hm:pF m=true:=by
  cases hm:pF m
  ·rw[hM,hm] at hg;cases hg
  ·rfl
 have hb:0≤n∧n≤4096:=by
  cases hc:nf n 0 4096
  ·rw[hM,hm,hc] at hg;cases hg
  ·exact nS.1 hc
 obtain⟨p1,p2⟩:=ny6 hp0 hm
 have key:∀(q N':Nat) (a n:Int) (o:Rows),n<q→q≤N'→0≤n→n≤4096→a≤9223372036854775807→o.length+n.toNat≤5000→∀M,zt ke k_ M list_ domain write m.nE N' a n (o.map pF0) (o.map pF1)=
   (fun r:Rows×Bool=>k_ (r.1.map pF0) (r.1.map pF1) r.2) (bif bif decide (a<0) then decide (0<n) else false then ([],false) else ni2 list_ domain write m.nE q a n o):=by
  intro q
  induction q with
  | zero=>intro N' a n o h1 h2 h3;omega
  | succ q ih=>
   intro N' a n o h1 h2 h3 h4 h7 h6 M
   obtain⟨N',rfl⟩:∃p,N'=p+1:=⟨N' - 1,by omega⟩
   rw[njw]
   by_cases hn:0<n
   ·by_cases ha:a<0
    ·simp only[wD,decide_eq_true hn,decide_eq_true ha,decide_eq_false (show ¬0≤a by omega),cond_true,cond_false,show decide ((-1:Int)<0)=true from rfl]
     rfl
    ·obtain⟨r1,r2,r3,r4⟩:=nuX (show 0≤a by omega) hn h4
     have tm:=nl_ (x:=a) (m:=128) (by omega) (by omega)
     have hr:∀(l:Rows) (x:List DC),l.length≤5000→oY 8 l [x]=true:=fun l x hl=>ry (by simp only[List.length_cons,List.length_nil];omega) (by omega)
     have hlp:=nBe (d:=domain) (w:=write) hM (show 0≤a by omega)
     have fA:(bif decide (vZ list_ domain (nM (Int.tdiv a 128)) write<0) then true else !(within m (nM (vZ list_ domain (nM (Int.tdiv a 128)) write*128)) 128))=
       (bif decide (place list_ domain a write<0) then true else !(within m (place list_ domain a write) (vw n (nM (128 - Int.tmod a 128))))):=by
      rw[hlp]
      rcases nCe hM domain (nM (Int.tdiv a 128)) write with h8 | ⟨h8,h9⟩
      ·rw[h8];rfl
      ·generalize vZ list_ domain (nM (Int.tdiv a 128)) write=P at h8 h9 ⊢
       rw[decide_eq_false (show ¬P<0 by omega),cond_false,cond_false,nQ (n:=P*128) (by omega) (by omega),nQ (n:=P*128+Int.tmod a 128) (by omega) (by omega),
        decide_eq_false (show ¬P*128+Int.tmod a 128<0 by omega),cond_false]
       rw[show within m (P*128+Int.tmod a 128) (vw n (nM (128 - Int.tmod a 128)))=within m (P*128) 128 from nAk p1 p2 h8 tm.1 r1 (by omega)]
     have hlen:∀f:List DC→List DC,(o.map f).length≤5000:=fun f=>by rw[List.length_map];omega
     unfold ni2
     simp only[wD,decide_eq_true hn,decide_eq_false ha,decide_eq_true (show 0≤a by omega),cond_true,cond_false,hr _ _ (hlen _),ng]
     have hM1:(⟨m.nE⟩:na)=m:=rfl
     rw[hM1,fA]
     refine pQ (K:=fun r:Rows×Bool=>k_ (r.1.map pF0) (r.1.map pF1) r.2) (fun _=>rfl) (fun hc=> ?_)
     have KV:place list_ domain a write=nM (nM (vZ list_ domain (nM (Int.tdiv a 128)) write*128)+Int.tmod a 128):=by
      rw[hlp]
      cases hd:decide (vZ list_ domain (nM (Int.tdiv a 128)) write<0)
      ·rfl
      ·rw[hlp,hd] at hc
       cases hc
     rw[←KV,r4]
     have e0:o.map pF0++[[DC.int (place list_ domain a write)]]=(o++[[DC.int (place list_ domain a write),DC.int (vw n (nM (128 - Int.tmod a 128)))]]).map pF0:=by rw[List.map_append];rfl
     have e1:o.map pF1++[[DC.int (vw n (nM (128 - Int.tmod a 128)))]]=(o++[[DC.int (place list_ domain a write),DC.int (vw n (nM (128 - Int.tmod a 128)))]]).map pF1:=by rw[List.map_append];rfl
     rw[e0,e1]
     exact ih N' _ _ _ (by omega) (by omega) (by omega) (by omega) (nB5 _) (by simp only[List.length_append,List.length_cons,List.length_nil];omega) M
   ·have hz:(bif decide (a<0) then decide (0<n) else false)=false:=by rw[decide_eq_false hn];cases decide (a<0)<;>rfl
    rw[hz]
    unfold ni2
    simp only[wD,decide_eq_false hn,cond_false]
 refine (key (n.toNat+1) (n.toNat+2) at_ n [] (by omega) (by omega) hb.1 hb.2 FU.2 (by simp only[List.length_nil];omega) _).trans ?_
 congr 1
 by_cases h0:n=0
 ·subst h0
  cases decide (at_<0)<;>rfl
 ·rw[show (n==0)=false by simpa using h0,cond_false,decide_eq_true (show 0<n by omega)]
  cases decide (at_<0)<;>rfl
def nfa (k_:na→α) (m:na):α:=
 bif Eb true (oY 16 [] m.nE) then
  k_ m
 else ke
theorem nvN (k_:na→α) (m:na) (aJ:sb m=true):nfa ke k_ m=k_ (oE m):=by
 have HA:sb m=true:=aJ
 unfold nfa
 rw[qA (show sm m.nE=true from HA) (show 16≤8388608 by omega)]
 rfl
def tZ (k_:na→Bool→α) (oD:Int→Bytes→Rows→α) (ug:Int) (tw:Bytes) (nU:Rows):α:=
 let z0:Bool:=idx (nM (Int.tdiv ug 128)) nU
 let z1:Bool:=inl (Int.toNat (nM (Int.tdiv ug 128))) nU
 let z2:Int:=vw (len tw) (nM (128 - (Int.tmod ug 128)))
 let z3:List DC:=nth nU (Int.toNat (nM (Int.tdiv ug 128)))
 let z4:Bytes:=ym tw z2
 bif decide (0<len tw) then
  bif Eb (Eb (Eb (Eb (Eb (Eb true z0) z1) (okH tw z2)) (oK (rS z3 0) (Int.tmod ug 128) z4)) z0) z1 then
   bif Eb true (okL tw z2) then
    oD (nM (ug+z2)) (zw tw z2) (List.set nU (Int.toNat (nM (Int.tdiv ug 128))) (bQ z3 0 [.str (qY (rS z3 0) (Int.tmod ug 128) z4)]))
   else ke
  else ke
 else k_ (⟨nU⟩:na) true
def wc (k_:na→Bool→α) (N m_:Nat):Int→Bytes→Rows→α:=
 Nat.rec (motive:=fun _=>Int→Bytes→Rows→α) (fun _ _ _=>ke) (fun _ oD=>tZ ke k_ oD) m_
theorem Qw (k_:na→Bool→α) (N m_:Nat):wc ke k_ N (m_+1)=tZ ke k_ (wc ke k_ N m_):=rfl
def OB (k_:na→Bool→α) (l0:Int→Bytes→Rows→α) (m:na) (at_:Int) (s:Bytes):α:=
 bif Eb true (sb m) then
  bif !(within m at_ (len s)) then k_ (oE m) false
  else l0 at_ s ((oE m).nE)
 else ke
def V8 (k_:na→Bool→α) (N:Nat) (m:na) (at_:Int) (s:Bytes):α:=OB ke k_ (wc ke k_ N N) m at_ s
theorem njt (k_:na→Bool→α) (m:na) (at_:Int) (s:Bytes) (h_m:kc na.ct m.enc) (aJ:rF m at_ s=true):∃N,V8 ke k_ N m at_ s=k_ (qh m at_ s).1 (qh m at_ s).2:=by
 have hp0:G1 (.sl [.str]) (.sl m.nE):=na.Qk h_m
 have Jb:sb m=true:=aJ
 refine⟨s.length+1, ?_⟩
 unfold V8 OB qh
 rw[show oE m=m from rfl]
 simp only[Jb,ng,cond_true]
 cases hw:within m at_ (len s)
 ·rfl
 ·obtain⟨p1,p2,p3,p4,p5⟩:=nma hp0 hw
  obtain⟨a,rfl⟩:=Int.eq_ofNat_of_zero_le p4
  simp only[Bool.not_true,cond_false,Int.toNat_natCast]
  have key:∀(q n a:Nat) (s:Bytes) (l:Rows),s.length≤q→q<n→pgs l→l.length≤64→a+s.length≤128*l.length→∀M,wc ke k_ M n (a:Int) s l=k_ (⟨noG q a s l⟩:na) true:=by
   intro q
   induction q with
   | zero=>
    intro n a s l h1 h2 h3 h4 h5 M
    obtain⟨n,rfl⟩:∃q,n=q+1:=⟨n - 1,by omega⟩
    have:s=[]:=List.length_eq_zero_iff.1 (by omega)
    subst this
    rw[Qw]
    simp only[tZ,show decide (0<len ([]:Bytes))=false by decide,cond_false,noG]
   | succ q ih=>
    intro n a s l h1 h2 h3 h4 h5 M
    obtain⟨n,rfl⟩:∃q,n=q+1:=⟨n - 1,by omega⟩
    rw[Qw]
    by_cases hs:0<s.length
    ·have hd:decide (0<len s)=true:=decide_eq_true (by simp only[len];omega)
     have hpg:a / 128<l.length:=by omega
     obtain⟨p,e1,e2⟩:=h3 (a / 128) hpg
     have w1:nM (((a / 128:Nat):Int))=((a / 128:Nat):Int):=nQ (by omega) (by omega)
     have c1:vw (len s) (nM (128 - ((a % 128:Nat):Int)))=((min s.length (128 - a % 128):Nat):Int):=by
      rw[nQ (by omega) (by omega)]
      unfold vw len
      by_cases hx:128 - ((a % 128:Nat):Int)<(s.length:Int)
      ·rw[if_pos hx];omega
      ·rw[if_neg hx];omega
     have w2:nM ((a:Int)+((min s.length (128 - a % 128):Nat):Int))=((a+min s.length (128 - a % 128):Nat):Int):=by rw[nQ (by omega) (by omega)];omega
     have g1:okH s ((min s.length (128 - a % 128):Nat):Int)=true:=by simp only[okH,Bool.and_eq_true,decide_eq_true_eq];omega
     have g4:okL s ((min s.length (128 - a % 128):Nat):Int)=true:=by simp only[okL,Bool.and_eq_true,decide_eq_true_eq];omega
     have g5:zw s ((min s.length (128 - a % 128):Nat):Int)=s.drop (min s.length (128 - a % 128)):=by simp [zw]
     have g6:ym s ((min s.length (128 - a % 128):Nat):Int)=s.take (min s.length (128 - a % 128)):=by simp [ym]
     have g7:oK p ((a % 128:Nat):Int) (s.take (min s.length (128 - a % 128)))=true:=by
      simp only[oK,Bool.and_eq_true,decide_eq_true_eq,List.length_take];omega
     have tk:s.take (min s.length (128 - a % 128))=s.take (128 - a % 128):=by
      rcases Nat.le_total s.length (128 - a % 128) with h8 | h8
      ·rw[Nat.min_eq_left h8,List.take_length,List.take_of_length_le h8]
      ·rw[Nat.min_eq_right h8]
     have g8:qY p ((a % 128:Nat):Int) (s.take (min s.length (128 - a % 128)))=naZ p (a % 128) s:=by
      have hw:rq p ((a % 128:Nat):Int) (len (s.take (min s.length (128 - a % 128))))=true:=(within_iff (by omega)).2 (by simp only[len,List.length_take];omega)
      unfold qY naZ
      rw[hw,Bool.not_true,cond_false,Int.toNat_natCast,List.append_assoc,List.length_take,tk]
      congr 3
      omega
     have st:=njx (a:=a) (s:=s) h3 hpg
     have this:=ih n (a+min s.length (128 - a % 128)) (s.drop (min s.length (128 - a % 128))) (Rt l a s) (by rw[List.length_drop];omega) (by omega) st.1 (by rw[st.2];exact h4) (by rw[st.2,List.length_drop];omega) M
     have e5:Rt l a s=l.set (a / 128) [.str (naZ p (a % 128) s)]:=by unfold Rt;rw[e1];rfl
     unfold noG
     rw[decide_eq_true hs,cond_true]
     rw[e5] at this ⊢
     simp only[tZ,hd,nAf,nAg,w1,nT hpg,sZ hpg,Int.toNat_natCast,e1,nAJ,c1,w2,g1,g4,g5,g6,g7,g8,naW,ng,nm,cond_true]
     exact this
    ·have:s=[]:=List.length_eq_zero_iff.1 (by omega)
     subst this
     simp only[tZ,show decide (0<len ([]:Bytes))=false by decide,cond_false]
     rfl
  exact key s.length (s.length+1) a s m.nE (Nat.le_refl _) (by omega) p1 p2 (by simp only[len] at p5;omega) _
def zj (k_:na→Bool→α) (starts rb:Rows) (oD:Bytes→Int→Rows→α) (tw:Bytes) (k:Int) (nU:Rows):α:=
 let z0:Bytes:=ym tw (rI (nth rb (Int.toNat k)) 0)
 bif decide (k<len starts) then
  bif Eb (Eb (Eb (Eb (Eb (Eb true (idx k starts)) (inl (Int.toNat k) starts)) (idx k rb)) (inl (Int.toNat k) rb)) (okH tw (rI (nth rb (Int.toNat k)) 0))) (rF (⟨nU⟩:na) (rI (nth starts (Int.toNat k)) 0) z0) then
   bif Eb (Eb (Eb true (idx k rb)) (inl (Int.toNat k) rb)) (okL tw (rI (nth rb (Int.toNat k)) 0)) then
    oD (zw tw (rI (nth rb (Int.toNat k)) 0)) (nM (k+1)) (((qh (⟨nU⟩:na) (rI (nth starts (Int.toNat k)) 0) z0).1).nE)
   else ke
  else ke
 else k_ (⟨nU⟩:na) true
def zi (k_:na→Bool→α) (N:Nat) (starts rb:Rows) (m_:Nat):Bytes→Int→Rows→α:=
 Nat.rec (motive:=fun _=>Bytes→Int→Rows→α) (fun _ _ _=>ke) (fun _ oD=>zj ke k_ starts rb oD) m_
theorem VN (k_:na→Bool→α) (N:Nat) (starts rb:Rows) (m_:Nat):zi ke k_ N starts rb (m_+1)=zj ke k_ starts rb (zi ke k_ N starts rb m_):=rfl
def NZ (k_:na→Bool→α) (l0:Rows→Rows→Bytes→Int→Rows→α) (list_:Rows) (m:na) (domain at_:Int) (s:Bytes):α:=
 let z0:Rows×Rows×Bool:=PB list_ m domain at_ (len s) true
 bif Eb true (sb m) then
  bif !z0.2.2 then k_ (oE m) false
  else l0 z0.1 z0.2.1 s 0 ((oE m).nE)
 else ke
def ncr (k_:na→Bool→α) (N:Nat) (list_:Rows) (m:na) (domain at_:Int) (s:Bytes):α:=NZ ke k_ (fun starts rb=>zi ke k_ N starts rb N) list_ m domain at_ s
theorem nrX (k_:na→Bool→α) (list_:Rows) (m:na) (domain at_:Int) (s:Bytes) (h_m:kc na.ct m.enc) (RQ:G1 .str (.str s)) (aJ:ua list_ m domain at_ s=true):∃N,ncr ke k_ N list_ m domain at_ s=k_ (rD list_ m domain at_ s).1 (rD list_ m domain at_ s).2:=by
 have hp0:G1 (.sl [.str]) (.sl m.nE):=na.Qk h_m
 have Jb:sb m=true:=aJ
 have Mt:=OC RQ
 refine⟨(sa list_ m domain at_ (len s) true).1.length+1, ?_⟩
 unfold ncr NZ rD put PB
 rw[show oE m=m from rfl]
 simp only[Jb,ng,cond_true]
 cases hr:(sa list_ m domain at_ (len s) true).2
 ·rfl
 ·obtain⟨g1,g2,g3⟩:=noW hp0 hr
  simp only[Bool.not_true,cond_false]
  generalize (sa list_ m domain at_ (len s) true).1=R at g3 ⊢
  have key:∀(q n i:Nat) (s:Bytes) (l:Rows),i+q=R.length→q<n→Uc (fun _=>True) (R.drop i) s.length→pgs l→l.length≤64→R.length≤5000→
    zi ke k_ (R.length+1) (R.map pF0) (R.map pF1) n s (i:Int) l=k_ (⟨nxK (R.drop i) s l⟩:na) true:=by
   intro q
   induction q with
   | zero=>
    intro n i s l h1 h2 h3 h4 h5 h6
    obtain⟨n,rfl⟩:∃q,n=q+1:=⟨n - 1,by omega⟩
    rw[VN,List.drop_eq_nil_of_le (by omega)]
    have hf:decide ((i:Int)<len (R.map pF0))=false:=decide_eq_false (by simp only[len,List.length_map];omega)
    simp only[zj,hf,cond_false,nxK]
   | succ q ih=>
    intro n i s l h1 h2 h3 h4 h5 h6
    obtain⟨n,rfl⟩:∃q,n=q+1:=⟨n - 1,by omega⟩
    have hi:i<R.length:=by omega
    have e0:R[i]=nth R i:=by simp [nth,hi]
    rw[List.drop_eq_getElem_cons hi,e0] at h3 ⊢
    obtain⟨p,k,e1,k1,k2,k3,_,k4⟩:=h3
    rw[VN]
    have w1:nM ((i:Int)+1)=((i+1:Nat):Int):=by rw[nQ (by omega) (by omega)];omega
    have x1:okH s (k:Int)=true:=by simp only[okH,Bool.and_eq_true,decide_eq_true_eq];omega
    have x2:okL s (k:Int)=true:=by simp only[okL,Bool.and_eq_true,decide_eq_true_eq];omega
    have x3:ym s (k:Int)=s.take k:=by simp [ym]
    have x4:zw s (k:Int)=s.drop k:=by simp [zw]
    have x5:∀a b,rF (⟨l⟩:na) a b=true:=fun a b=>by
     unfold rF sm
     exact decide_eq_true (by show l.length≤16777216;omega)
    have Mp:∀f:List DC→List DC,i<(R.map f).length:=fun f=>by rw[List.length_map];exact hi
    have n0:nth (R.map pF0) i=[.int (p:Int)]:=by rw[nsS _ hi,e1];rfl
    have n1:nth (R.map pF1) i=[.int (k:Int)]:=by rw[nsS _ hi,e1];rfl
    have r1:rI [DC.int (p:Int),DC.int (k:Int)] 0=(p:Int):=rfl
    have r2:rI [DC.int (p:Int),DC.int (k:Int)] 1=(k:Int):=rfl
    have wp:=na1 (a:=(p:Int)) (s:=s.take k) h4 h5
    have this:=ih n (i+1) (s.drop k) (qh (⟨l⟩:na) (p:Int) (s.take k)).1.nE (by omega) (by omega) (by rw[List.length_drop];exact k4) wp.1 (by rw[wp.2];exact h5) h6
    simp only[zj,oL (Mp _),nT (Mp _),sZ (Mp _),Int.toNat_natCast,n0,n1,e1,r1,r2,nBY,x1,x2,x3,x4,x5,w1,ng,nm,cond_true,nxK]
    exact this
  exact key R.length (R.length+1) 0 s m.nE (by omega) (by omega) (by have h:=g3.1;rw[show (len s).toNat=s.length by simp [len]] at h;exact h) g1 g2 g3.2
def YA (k_:na→Bool→α) (list_:Rows) (m:na) (domain at_:Int) (s:Bytes):α:=
 let z0:na×Bool:=put list_ m domain at_ s false
 bif Eb true (noa list_ m domain at_ s false) then
  k_ z0.1 z0.2
 else ke
def sn (list_:Rows) (m:na) (domain at_:Int) (s:Bytes):Bool:=sm list_ && sm m.nE
def rp (list_:Rows) (m:na) (domain at_:Int) (s:Bytes):na×Bool:=put list_ m domain at_ s false
theorem nmn (k_:na→Bool→α) (list_:Rows) (m:na) (domain at_:Int) (s:Bytes) (aJ:sn list_ m domain at_ s=true):YA ke k_ list_ m domain at_ s=k_ (rp list_ m domain at_ s).1 (rp list_ m domain at_ s).2:=by
 have hk:sm list_=true∧sm m.nE=true:=by simpa [sn] using aJ
 have h:noa list_ m domain at_ s false=true:=hk.2
 unfold YA rp
 simp only[h,ng,cond_true]
def opR (r:List DC):List DC:=[.int (rI r 0),.int (rI r 1),.int (rI r 2),.bool true]
theorem nzy {p q:Nat→Bool} (h:∀j,p j=q j) (m i:Nat):wh p m i=wh q m i:=nhz m i (fun j _ _=>h j)
theorem ny7 (l:Rows) (i:Nat):rI (nth (l.map opR) i) 0=rI (nth l i) 0∧rI (nth (l.map opR) i) 1=rI (nth l i) 1∧rI (nth (l.map opR) i) 2=rI (nth l i) 2:=by
 by_cases h:i<l.length
 ·rw[nsS _ h];exact⟨rfl,rfl,rfl⟩
 ·have e:∀k:Rows,¬i<k.length→nth k i=[]:=fun k hk=>by simp [nth,List.getD_eq_getElem?_getD,List.getElem?_eq_none (show k.length≤i by omega)]
  rw[e l h,e (l.map opR) (by rw[List.length_map];exact h)]
  exact⟨rfl,rfl,rfl⟩
theorem no6 (l:Rows):oQ (l.map opR)=oQ l:=by
 unfold oQ
 have hlen:len (l.map opR)=len l:=by simp [len]
 rw[hlen]
 have go:∀(l2:Rows) (s:Nat),qn (fun i r=>bif vM r then true else wh (fun j=>bif (rI (nth (l.map opR) j) 0)==(rI r 0) then (rI (nth (l.map opR) j) 1)==(rI r 1) else false) i 0) (l2.map opR) s=
   qn (fun i r=>bif vM r then true else wh (fun j=>bif (rI (nth l j) 0)==(rI r 0) then (rI (nth l j) 1)==(rI r 1) else false) i 0) l2 s:=by
  intro l2
  induction l2 with
  | nil=>intro s;rfl
  | cons r rs ih=>
   intro s
   have e:wh (fun j=>bif (rI (nth (l.map opR) j) 0)==(rI (opR r) 0) then (rI (nth (l.map opR) j) 1)==(rI (opR r) 1) else false) s 0=wh (fun j=>bif (rI (nth l j) 0)==(rI r 0) then (rI (nth l j) 1)==(rI r 1) else false) s 0:=
    nzy (fun j=>by rw[(ny7 l j).1,(ny7 l j).2.1];rfl) s 0
   simp only[List.map_cons,qn]
   rw[ih (s+1),e]
   rfl
 rw[go l 0]
theorem nAI (l:Rows) (d a:Int):place (l.map opR) d a true=place l d a false:=by
 have hx:nlD (l.map opR) d a=nlD l d a:=by
  unfold nlD rY
  have go:∀(l2:Rows) (s:Nat),findIdx (fun _ r=>bif (rI r 0)==d then (rI r 1)==(nM (Int.tdiv a 128)) else false) (l2.map opR) s=findIdx (fun _ r=>bif (rI r 0)==d then (rI r 1)==(nM (Int.tdiv a 128)) else false) l2 s:=by
   intro l2
   induction l2 with
   | nil=>intro s;rfl
   | cons r rs ih=>
    intro s
    simp only[List.map_cons,findIdx]
    rw[ih (s+1)]
    rfl
  exact go l 0
 unfold place
 rw[hx]
 rcases niZ l d a with h | ⟨i,i1,i2,_⟩
 ·rw[decide_eq_true h];rfl
 ·rw[i2,Int.toNat_natCast,(ny7 l i).2.2,nsS _ i1]
  rfl
theorem nyp (l:Rows) (d:Int) (nhm:Rows):∀(q:Nat) (a n:Int) (o:Rows),ni2 (l.map opR) d true nhm q a n o=ni2 l d false nhm q a n o
 | 0,_,_,_=>rfl
 | q+1,a,n,o=>by
  unfold ni2
  rw[nAI,nyp l d nhm q]
theorem nzZ (l:Rows) (m:na) (d a n:Int):sa (l.map opR) m d a n true=sa l m d a n false:=by
 unfold sa
 rw[no6,nyp]
def yf (k_:na→Bool→α) (list_:Rows) (domain at_:Int) (s:Bytes) (qH:Rows) (oD:Int→Rows→α) (k:Int) (open_:Rows):α:=
 let z0:na×Bool:=rD open_ (⟨qH⟩:na) domain at_ s
 bif decide (k<len list_) then
  bif Eb true (idx k list_) then
   bif Eb true (oY 32 open_ ([[.int (rI (nth list_ (Int.toNat k)) 0),.int (rI (nth list_ (Int.toNat k)) 1),.int (rI (nth list_ (Int.toNat k)) 2),.bool true]])) then
    oD (nM (k+1)) (open_++([[.int (rI (nth list_ (Int.toNat k)) 0),.int (rI (nth list_ (Int.toNat k)) 1),.int (rI (nth list_ (Int.toNat k)) 2),.bool true]]))
   else ke
  else ke
 else bif Eb true (ua open_ (⟨qH⟩:na) domain at_ s) then
   k_ z0.1 z0.2
  else ke
def tJ (k_:na→Bool→α) (N:Nat) (list_:Rows) (domain at_:Int) (s:Bytes) (qH:Rows) (m_:Nat):Int→Rows→α:=
 Nat.rec (motive:=fun _=>Int→Rows→α) (fun _ _=>ke) (fun _ oD=>yf ke k_ list_ domain at_ s qH oD) m_
theorem TN (k_:na→Bool→α) (N:Nat) (list_:Rows) (domain at_:Int) (s:Bytes) (qH:Rows) (m_:Nat):tJ ke k_ N list_ domain at_ s qH (m_+1)=yf ke k_ list_ domain at_ s qH (tJ ke k_ N list_ domain at_ s qH m_):=rfl
def Ro {α:Type} (ke:α) (k_:na→Bool→α) (l0:Rows→Int→Rows→α) (list_:Rows) (m:na) (domain at_:Int) (s:Bytes):α:=
 l0 m.nE 0 []
def Z6 (k_:na→Bool→α) (N:Nat) (list_:Rows) (m:na) (domain at_:Int) (s:Bytes):α:=Ro ke k_ (fun qH=>tJ ke k_ N list_ domain at_ s qH N) list_ m domain at_ s
theorem noh (k_:na→Bool→α) (list_:Rows) (m:na) (domain at_:Int) (s:Bytes) (pE:G1 (.sl [.i,.i,.i,.bool]) (.sl list_)) (aJ:sn list_ m domain at_ s=true):∃N,Z6 ke k_ N list_ m domain at_ s=k_ (rp list_ m domain at_ s).1 (rp list_ m domain at_ s).2:=by
 obtain⟨hl,_⟩:=oh pE
 have hk:sm list_=true∧sm m.nE=true:=by simpa [sn] using aJ
 have l1:=sd hk.1
 refine⟨list_.length+1, ?_⟩
 unfold Z6 Ro rp
 refine (Nb list_.length (fun n i o=>tJ ke k_ (list_.length+1) list_ domain at_ s m.nE n i o) (fun i o=>o++[opR (nth list_ i)]) (fun o=>k_ (rD o m domain at_ s).1 (rD o m domain at_ s).2) (fun i o=>o.length≤i) ?_ ?_ ?_ (list_.length+1) [] (by simp) (by omega)).trans ?_
 ·intro i o hi ho
  simp only[List.length_append,List.length_cons,List.length_nil];omega
 ·intro n i o hi ho
  show tJ ke k_ (list_.length+1) list_ domain at_ s m.nE (n+1) (i:Int) o=_
  rw[TN]
  have eF:∀x:List DC,oY 32 o [x]=true:=fun x=>ry (by simp only[List.length_cons,List.length_nil];omega) (by omega)
  simp only[yf,oL hi,nT hi,eF,oa hi hl,Int.toNat_natCast,ng,nm,cond_true]
  rfl
 ·intro n o ho
  show tJ ke k_ (list_.length+1) list_ domain at_ s m.nE (n+1) (list_.length:Int) o=_
  rw[TN]
  have hd:ua o m domain at_ s=true:=hk.2
  have hM1:(⟨m.nE⟩:na)=m:=rfl
  simp only[yf,nN,cond_false,hM1,hd,ng,cond_true]
 ·have e:itN (fun i o=>o++[opR (nth list_ i)]) list_.length 0 []=list_.map opR:=((T0 (fun (o:Rows) (r:List DC)=>o++[opR r]) list_ [] []).trans (nyl opR list_ [])).trans (by simp)
  rw[e]
  unfold rD put
  rw[nzZ]
def nfl (k_:nC→α) (f:nC):α:=
 bif Eb true (oY 8 [] f.pH) then
  k_ f
 else ke
def njK (f:nC):Bool:=sm f.pH
theorem nvZ (k_:nC→α) (f:nC) (aJ:njK f=true):nfl ke k_ f=k_ (oE f):=by
 have HA:njK f=true:=aJ
 unfold nfl
 rw[qA (show sm f.pH=true from HA) (show 8≤8388608 by omega)]
 rfl
def WM (k_:nC→α) (f:nC):α:=
 bif Eb true (sm f.pH) then
  k_ (⟨f.Mac,f.pS,oE f.pH⟩:nC)
 else ke
theorem nj8 (k_:nC→α) (f:nC) (aJ:njK f=true):WM ke k_ f=k_ (oE f):=by
 have HA:njK f=true:=aJ
 unfold WM
 rw[show sm f.pH=true from HA]
 rfl
def ne6 (k_:ni→α) (t:ni):α:=
 bif Eb true (oY 56 [] t.nF) then
  k_ t
 else ke
def nl9 (t:ni):Bool:=sm t.nF
theorem nvE (k_:ni→α) (t:ni) (aJ:nl9 t=true):ne6 ke k_ t=k_ (oE t):=by
 have HA:nl9 t=true:=aJ
 unfold ne6
 rw[qA (show sm t.nF=true from HA) (show 56≤8388608 by omega)]
 rfl
def YE (k_:ni→α) (t:ni):α:=
 bif Eb true (oY 56 [] t.nF) then
  k_ t
 else ke
theorem nmz (k_:ni→α) (t:ni) (aJ:nl9 t=true):YE ke k_ t=k_ (oE t):=by
 have HA:nl9 t=true:=aJ
 unfold YE
 rw[qA (show sm t.nF=true from HA) (show 56≤8388608 by omega)]
 rfl
def WQ (k_:nG→α) (s:nG):α:=
 bif Eb true (sm s.Table) then
  k_ (⟨s.Key,oE s.Table⟩:nG)
 else ke
def nAe (s:nG):Bool:=sm s.Table
theorem nke (k_:nG→α) (s:nG) (aJ:nAe s=true):WQ ke k_ s=k_ (oE s):=by
 have HA:nAe s=true:=aJ
 unfold WQ
 rw[show sm s.Table=true from HA]
 rfl
def ne_ (k_:nk→α) (s:nk):α:=
 bif Eb (Eb (Eb true (oY 72 [] s.oO)) (nl9 s.Table)) (oY 8 [] s.oF.Table) then
  k_ (⟨s.oO,oE s.Table,s.oF⟩:nk)
 else ke
def nac (s:nk):Bool:=sm s.oO && (sm s.Table.nF && sm s.oF.Table)
theorem nvK (k_:nk→α) (s:nk) (aJ:nac s=true):ne_ ke k_ s=k_ (oE s):=by
 have HA:nac s=true:=aJ
 unfold ne_
 simp only[nac,Bool.and_eq_true] at HA
 obtain⟨h1,h2,h3⟩:=HA
 rw[qA h1 (show 72≤8388608 by omega),qA h3 (show 8≤8388608 by omega),show nl9 s.Table=true from h2]
 rfl
def Tl (k_:nk→α) (s:nk):α:=
 bif Eb (Eb (Eb true (oY 72 [] s.oO)) (nl9 s.Table)) (nAe s.oF) then
  k_ (⟨s.oO,oE s.Table,oE s.oF⟩:nk)
 else ke
theorem nfW (k_:nk→α) (s:nk) (aJ:nac s=true):Tl ke k_ s=k_ (oE s):=by
 have HA:nac s=true:=aJ
 unfold Tl
 simp only[nac,Bool.and_eq_true] at HA
 obtain⟨h1,h2,h3⟩:=HA
 rw[qA h1 (show 72≤8388608 by omega),show nl9 s.Table=true from h2,show nAe s.oF=true from h3]
 rfl
def Tj (k_:Rows→α) (list_:Rows):α:=
 bif Eb true (oY 32 [] list_) then
  k_ list_
 else ke
theorem nfT (k_:Rows→α) (list_:Rows) (aJ:sm list_=true):Tj ke k_ list_=k_ (oE list_):=by
 have HA:sm list_=true:=aJ
 unfold Tj
 rw[qA (show sm list_=true from HA) (show 32≤8388608 by omega)]
 rfl
def UK (k_:Rows→α) (list_:Rows):α:=
 bif Eb true (oY 72 [] list_) then
  k_ list_
 else ke
theorem nh7 (k_:Rows→α) (list_:Rows) (aJ:sm list_=true):UK ke k_ list_=k_ (oE list_):=by
 have HA:sm list_=true:=aJ
 unfold UK
 rw[qA (show sm list_=true from HA) (show 72≤8388608 by omega)]
 rfl
def yZ (k_:Rows→α) (list_:Rows) (nX:Int) (oD:Int→Rows→α) (oc:Int) (nV:Rows):α:=
 bif decide (oc<nX) then
  bif Eb true (idx oc list_) then
   bif Eb (Eb true (sm (rR (nth list_ (Int.toNat oc)) 2))) (oY 40 nV ([[.int (rI (nth list_ (Int.toNat oc)) 0),.int (rI (nth list_ (Int.toNat oc)) 1),.sl (oE (rR (nth list_ (Int.toNat oc)) 2))]])) then
    oD (nM (oc+1)) (nV++([[.int (rI (nth list_ (Int.toNat oc)) 0),.int (rI (nth list_ (Int.toNat oc)) 1),.sl (oE (rR (nth list_ (Int.toNat oc)) 2))]]))
   else ke
  else ke
 else k_ nV
def uh (k_:Rows→α) (N:Nat) (list_:Rows) (nX:Int) (m_:Nat):Int→Rows→α:=
 Nat.rec (motive:=fun _=>Int→Rows→α) (fun _ _=>ke) (fun _ oD=>yZ ke k_ list_ nX oD) m_
theorem UI (k_:Rows→α) (N:Nat) (list_:Rows) (nX:Int) (m_:Nat):uh ke k_ N list_ nX (m_+1)=yZ ke k_ list_ nX (uh ke k_ N list_ nX m_):=rfl
def Sz {α:Type} (ke:α) (k_:Rows→α) (l0:Int→Int→Rows→α) (list_:Rows):α:=
 l0 (len list_) 0 []
def nbG (k_:Rows→α) (N:Nat) (list_:Rows):α:=Sz ke k_ (fun nX=>uh ke k_ N list_ nX N) list_
theorem np8 (k_:Rows→α) (list_:Rows) (pE:G1 (.sl [.i,.i,.sl [.i]]) (.sl list_)) (aJ:w4 list_=true):∃N,nbG ke k_ N list_=k_ (oE list_):=by
 obtain⟨hl,hw⟩:=oh pE
 have HA:=aJ
 simp only[w4,Bool.and_eq_true,List.all_eq_true] at HA
 obtain⟨s1,s2⟩:=HA
 have l1:=sd s1
 refine⟨list_.length+1, ?_⟩
 unfold nbG Sz
 refine (Nb list_.length (fun n i o=>uh ke k_ (list_.length+1) list_ (len list_) n i o) (fun i o=>o++[nth list_ i]) k_ (fun i o=>o.length≤i) ?_ ?_ ?_ (list_.length+1) [] (by simp) (by omega)).trans ?_
 ·intro i o hi ho
  simp only[List.length_append,List.length_cons,List.length_nil];omega
 ·intro n i o hi ho
  show uh ke k_ (list_.length+1) list_ (len list_) (n+1) (i:Int) o=_
  rw[UI]
  have er:[DC.int (rI (nth list_ i) 0),DC.int (rI (nth list_ i) 1),DC.sl (rR (nth list_ i) 2)]=nth list_ i:=oZ.eta (hw _ (tI hi))
  have hb:sm (rR (nth list_ i) 2)=true:=s2 _ (tI hi)
  have iF:oY 8 [] (rR (nth list_ i) 2)=true:=qA hb (show 8≤8388608 by omega)
  have eF:∀x:List DC,oY 40 o [x]=true:=fun x=>ry (by simp only[List.length_cons,List.length_nil];omega) (by omega)
  simp only[yZ,oE,oL hi,nT hi,hb,eF,er,oa hi hl,Int.toNat_natCast,ng,nm,cond_true]
 ·intro n o ho
  show uh ke k_ (list_.length+1) list_ (len list_) (n+1) (list_.length:Int) o=_
  rw[UI]
  simp only[yZ,nN,cond_false]
 ·exact congrArg k_ ((T0 (fun (o:Rows) (r:List DC)=>o++[r]) list_ [] []).trans ((foldl_push (fun r=>r) list_ []).trans (by simp [oE])))
def Oa (k_:nh→α) (sX:Rows) (nV pY pZ p6 pw px py p7:Int) (re:Rows) (oD:Int→Rows→α) (k:Int) (wz:Rows):α:=
 bif decide (k<len sX) then
  bif Eb true (idx k sX) then
   bif Eb (Eb true (oY 8 [] (rR (nth sX (Int.toNat k)) 2))) (oY 40 wz ([[.int (rI (nth sX (Int.toNat k)) 0),.int (rI (nth sX (Int.toNat k)) 1),.sl (rR (nth sX (Int.toNat k)) 2)]])) then
    oD (nM (k+1)) (wz++([[.int (rI (nth sX (Int.toNat k)) 0),.int (rI (nth sX (Int.toNat k)) 1),.sl (rR (nth sX (Int.toNat k)) 2)]]))
   else ke
  else ke
 else k_ (⟨(⟨nV,pY,pZ,p6⟩:nB),(⟨pw,px,py,re⟩:nv),wz,p7⟩:nh)
def tS (k_:nh→α) (N:Nat) (sX:Rows) (nV pY pZ p6 pw px py p7:Int) (re:Rows) (m_:Nat):Int→Rows→α:=
 Nat.rec (motive:=fun _=>Int→Rows→α) (fun _ _=>ke) (fun _ oD=>Oa ke k_ sX nV pY pZ p6 pw px py p7 re oD) m_
theorem XU (k_:nh→α) (N:Nat) (sX:Rows) (nV pY pZ p6 pw px py p7:Int) (re:Rows) (m_:Nat):tS ke k_ N sX nV pY pZ p6 pw px py p7 re (m_+1)=Oa ke k_ sX nV pY pZ p6 pw px py p7 re (tS ke k_ N sX nV pY pZ p6 pw px py p7 re m_):=rfl
def Qh (k_:nh→α) (l0:Rows→Int→Int→Int→Int→Int→Int→Int→Int→Rows→Int→Rows→α) (q:nh):α:=
 bif Eb true (uW q.nI) then
  l0 q.nr q.Ring.oG q.Ring.nL q.Ring.Head q.Ring.qG ((oE q.nI).oG) ((oE q.nI).nL) ((oE q.nI).Count) q.Next ((oE q.nI).oB) 0 []
 else ke
def nfh (k_:nh→α) (N:Nat) (q:nh):α:=Qh ke k_ (fun sX nV pY pZ p6 pw px py p7 re=>tS ke k_ N sX nV pY pZ p6 pw px py p7 re N) q
def zH (q:nh):Bool:=sm q.nI.oB && w4 q.nr
theorem nvT (k_:nh→α) (q:nh) (h_q:kc nh.ct q.enc) (aJ:zH q=true):∃N,nfh ke k_ N q=k_ (oE q):=by
 obtain⟨hl,hw⟩:=oh (nh.vR h_q)
 have HA:=aJ
 simp only[zH,w4,Bool.and_eq_true,List.all_eq_true] at HA
 obtain⟨s0,s1,s2⟩:=HA
 have l1:=sd s1
 refine⟨q.nr.length+1, ?_⟩
 unfold nfh Qh
 rw[show uW q.nI=true from s0]
 have key:∀(x0 x1 x2 x3 x4 x5 x6 x7:Int) (F:Rows),tS ke k_ (q.nr.length+1) q.nr x0 x1 x2 x3 x4 x5 x6 x7 F (q.nr.length+1) 0 []=k_ (⟨⟨x0,x1,x2,x3⟩,⟨x4,x5,x6,F⟩,q.nr,x7⟩:nh):=by
  intro x0 x1 x2 x3 x4 x5 x6 x7 F
  refine (Nb q.nr.length (fun n i o=>tS ke k_ (q.nr.length+1) q.nr x0 x1 x2 x3 x4 x5 x6 x7 F n i o) (fun i o=>o++[nth q.nr i]) (fun o=>k_ (⟨⟨x0,x1,x2,x3⟩,⟨x4,x5,x6,F⟩,o,x7⟩:nh)) (fun i o=>o.length≤i) ?_ ?_ ?_ (q.nr.length+1) [] (by simp) (by omega)).trans ?_
  ·intro i o hi ho
   simp only[List.length_append,List.length_cons,List.length_nil];omega
  ·intro n i o hi ho
   show tS ke k_ (q.nr.length+1) q.nr x0 x1 x2 x3 x4 x5 x6 x7 F (n+1) (i:Int) o=_
   rw[XU]
   have er:[DC.int (rI (nth q.nr i) 0),DC.int (rI (nth q.nr i) 1),DC.sl (rR (nth q.nr i) 2)]=nth q.nr i:=oZ.eta (hw _ (tI hi))
   have hb:sm (rR (nth q.nr i) 2)=true:=s2 _ (tI hi)
   have iF:oY 8 [] (rR (nth q.nr i) 2)=true:=qA hb (show 8≤8388608 by omega)
   have eF:∀x:List DC,oY 40 o [x]=true:=fun x=>ry (by simp only[List.length_cons,List.length_nil];omega) (by omega)
   simp only[Oa,oL hi,nT hi,iF,eF,er,oa hi hl,Int.toNat_natCast,ng,nm,cond_true]
  ·intro n o ho
   show tS ke k_ (q.nr.length+1) q.nr x0 x1 x2 x3 x4 x5 x6 x7 F (n+1) (q.nr.length:Int) o=_
   rw[XU]
   simp only[Oa,nN,cond_false]
  ·exact congrArg (fun o=>k_ (⟨⟨x0,x1,x2,x3⟩,⟨x4,x5,x6,F⟩,o,x7⟩:nh)) ((T0 (fun (o:Rows) (r:List DC)=>o++[r]) q.nr [] []).trans ((foldl_push (fun r=>r) q.nr []).trans (by simp)))
 exact key _ _ _ _ _ _ _ _ _
def ngG (k_:nh→α) (q:nh):α:=
 bif Eb (Eb true (uW q.nI)) (w4 q.nr) then
  k_ (⟨q.Ring,oE q.nI,oE q.nr,q.Next⟩:nh)
 else ke
theorem nwB (k_:nh→α) (q:nh) (aJ:zH q=true):ngG ke k_ q=k_ (oE q):=by
 have HA:=aJ
 simp only[zH,Bool.and_eq_true] at HA
 obtain⟨s0,s1⟩:=HA
 unfold ngG
 rw[show uW q.nI=true from s0,s1]
 rfl
def yY (k_:ny→α) (x:Rows) (nX:Int) (pb qq:Rows) (qC:Int) (qD:Bool) (qs pn po:Rows) (pr:Bytes) (pq qt qu qv qw:Rows) (nV pY pZ p6 pw px py p7:Int) (p_:Bool) (qb qc qd qe qf:Int) (nU pj pk oT oU:Rows) (oD:Int→Rows→α) (oc:Int) (uD:Rows):α:=
 let z0:nk:=(⟨pn,(⟨po⟩:ni),(⟨pr,pq⟩:nG)⟩:nk)
 bif decide (oc<nX) then
  bif Eb true (idx oc x) then
   bif Eb (Eb true (uW (nv.nd (nth x (Int.toNat oc)) 0))) (oY 48 uD [nv.enc (oE (nv.nd (nth x (Int.toNat oc)) 0))]) then
    oD (nM (oc+1)) (uD++[nv.enc (oE (nv.nd (nth x (Int.toNat oc)) 0))])
   else ke
  else ke
 else bif Eb true (oY 40 [] pb) then
   bif Eb true (oY 1 [] qq) then
    bif Eb true (njK (⟨qC,qD,qs⟩:nC)) then
     bif Eb true (nac z0) then
      bif Eb true (sm qt) then
       bif Eb true (sm qu) then
        bif Eb true (sm qv) then
         bif Eb true (sm qw) then
          k_ (⟨(⟨nU⟩:na),pj,(⟨(⟨nV,pY,pZ,p6⟩:nB),(⟨pw,px,py,pk⟩:nv),oT,p7⟩:nh),oU,uD,pb,qq,oE (⟨qC,qD,qs⟩:nC),oE z0,oE qt,p_,oE qu,oE qv,oE qw,(⟨qb,qc,qd,qe,qf⟩:ox)⟩:ny)
         else ke
        else ke
       else ke
      else ke
     else ke
    else ke
   else ke
  else ke
def te (k_:ny→α) (N:Nat) (x:Rows) (nX:Int) (pb qq:Rows) (qC:Int) (qD:Bool) (qs pn po:Rows) (pr:Bytes) (pq qt qu qv qw:Rows) (nV pY pZ p6 pw px py p7:Int) (p_:Bool) (qb qc qd qe qf:Int) (nU pj pk oT oU:Rows) (m_:Nat):Int→Rows→α:=
 Nat.rec (motive:=fun _=>Int→Rows→α) (fun _ _=>ke) (fun _ oD=>yY ke k_ x nX pb qq qC qD qs pn po pr pq qt qu qv qw nV pY pZ p6 pw px py p7 p_ qb qc qd qe qf nU pj pk oT oU oD) m_
theorem UH (k_:ny→α) (N:Nat) (x:Rows) (nX:Int) (pb qq:Rows) (qC:Int) (qD:Bool) (qs pn po:Rows) (pr:Bytes) (pq qt qu qv qw:Rows) (nV pY pZ p6 pw px py p7:Int) (p_:Bool) (qb qc qd qe qf:Int) (nU pj pk oT oU:Rows) (m_:Nat):te ke k_ N x nX pb qq qC qD qs pn po pr pq qt qu qv qw nV pY pZ p6 pw px py p7 p_ qb qc qd qe qf nU pj pk oT oU (m_+1)=yY ke k_ x nX pb qq qC qD qs pn po pr pq qt qu qv qw nV pY pZ p6 pw px py p7 p_ qb qc qd qe qf nU pj pk oT oU (te ke k_ N x nX pb qq qC qD qs pn po pr pq qt qu qv qw nV pY pZ p6 pw px py p7 p_ qb qc qd qe qf nU pj pk oT oU m_):=rfl
def NG (k_:ny→α) (l0:Rows→Int→Rows→Rows→Int→Bool→Rows→Rows→Rows→Bytes→Rows→Rows→Rows→Rows→Rows→Int→Int→Int→Int→Int→Int→Int→Int→Bool→Int→Int→Int→Int→Int→Rows→Rows→Rows→Rows→Rows→Int→Rows→α) (h:ny):α:=
 bif Eb true (sb h.ov) then
  bif Eb true (sm h.Maps) then
   bif Eb true (zH h.Tx) then
    bif Eb true (oY 248 [] h.Rx) then
     l0 h.ot (len h.ot) h.og h.pd h.Filter.Mac h.Filter.pS h.Filter.pH h.nz.oO h.nz.Table.nF h.nz.oF.Key h.nz.oF.Table h.pG h.wE h.oX h.pC (((oE h.Tx).Ring).oG) (((oE h.Tx).Ring).nL) (((oE h.Tx).Ring).Head) (((oE h.Tx).Ring).qG) (((oE h.Tx).nI).oG) (((oE h.Tx).nI).nL) (((oE h.Tx).nI).Count) ((oE h.Tx).Next) h.sj h.Counters.Frames h.Counters.Bad h.Counters.sk h.Counters.t5 h.Counters.OV ((oE h.ov).nE) (oE h.Maps) (((oE h.Tx).nI).oB) ((oE h.Tx).nr) h.Rx 0 []
    else ke
   else ke
  else ke
 else ke
def nbA (k_:ny→α) (N:Nat) (h:ny):α:=NG ke k_ (fun x nX pb qq qC qD qs pn po pr pq qt qu qv qw nV pY pZ p6 pw px py p7 p_ qb qc qd qe qf nU pj pk oT oU=>te ke k_ N x nX pb qq qC qD qs pn po pr pq qt qu qv qw nV pY pZ p6 pw px py p7 p_ qb qc qd qe qf nU pj pk oT oU N) h
theorem np1 (k_:ny→α) (h:ny) (h_h:kc ny.ct h.enc) (aJ:t6 h=true):∃N,nbA ke k_ N h=k_ (oE h):=by
 obtain⟨hl,hw⟩:=oh (ny.nfx h_h)
 have HA:t6 h=true:=aJ
 simp only[t6,Bool.and_eq_true] at HA
 obtain⟨s0,s1,s2,s3,s4,s5,s6,s7,s8,s9,s10,s11,s12,s13,s14,s15⟩:=HA
 simp only[naT,Bool.and_eq_true,List.all_eq_true] at s5
 obtain⟨t1,t2⟩:=s5
 have l1:=sd t1
 have m2:zH h.Tx=true:=by simp only[zH,s2,s3,Bool.and_self]
 have r4:oY 248 [] h.Rx=true:=qA s4 (by omega)
 refine⟨h.ot.length+1, ?_⟩
 unfold nbA NG
 rw[show sb h.ov=true from s0]
 simp only[m2,r4,s1,ng,cond_true]
 have key:∀(pb:Rows) (qq:Rows) (qC:Int) (qD:Bool) (qs:Rows) (pn:Rows) (po:Rows) (pr:Bytes) (pq:Rows) (qt:Rows) (qu:Rows) (qv:Rows) (qw:Rows) (nV:Int) (pY:Int) (pZ:Int) (p6:Int) (pw:Int) (px:Int) (py:Int) (p7:Int) (p_:Bool) (qb:Int) (qc:Int) (qd:Int) (qe:Int) (qf:Int) (nU:Rows) (pj:Rows) (pk:Rows) (oT:Rows) (oU:Rows),sm pb=true→sm qq=true→sm qs=true→sm pn=true→sm po=true→sm pq=true→sm qt=true→sm qu=true→sm qv=true→sm qw=true→
   te ke k_ (h.ot.length+1) h.ot (len h.ot) pb qq qC qD qs pn po pr pq qt qu qv qw nV pY pZ p6 pw px py p7 p_ qb qc qd qe qf nU pj pk oT oU (h.ot.length+1) 0 []=k_ (⟨(⟨nU⟩:na),pj,(⟨(⟨nV,pY,pZ,p6⟩:nB),(⟨pw,px,py,pk⟩:nv),oT,p7⟩:nh),oU,h.ot,pb,qq,(⟨qC,qD,qs⟩:nC),(⟨pn,(⟨po⟩:ni),(⟨pr,pq⟩:nG)⟩:nk),qt,p_,qu,qv,qw,(⟨qb,qc,qd,qe,qf⟩:ox)⟩:ny):=by
  intro pb qq qC qD qs pn po pr pq qt qu qv qw nV pY pZ p6 pw px py p7 p_ qb qc qd qe qf nU pj pk oT oU q6 q7 q8 q9 q10 q11 q12 q13 q14 q15
  have u6:oY 40 [] pb=true:=qA q6 (by omega)
  have u7:oY 1 [] qq=true:=qA q7 (by omega)
  have u8:njK (⟨qC,qD,qs⟩:nC)=true:=q8
  have u9:nac (⟨pn,(⟨po⟩:ni),(⟨pr,pq⟩:nG)⟩:nk)=true:=by simp only[nac,q9,q10,q11,Bool.and_self]
  have u12:oY 72 [] qt=true:=qA q12 (by omega)
  have u13:oY 16 [] qu=true:=qA q13 (by omega)
  have u14:oY 8 [] qv=true:=qA q14 (by omega)
  have u15:oY 8 [] qw=true:=qA q15 (by omega)
  refine (Nb h.ot.length (fun n i o=>te ke k_ (h.ot.length+1) h.ot (len h.ot) pb qq qC qD qs pn po pr pq qt qu qv qw nV pY pZ p6 pw px py p7 p_ qb qc qd qe qf nU pj pk oT oU n i o) (fun i o=>o++[nth h.ot i]) (fun o=>k_ (⟨(⟨nU⟩:na),pj,(⟨(⟨nV,pY,pZ,p6⟩:nB),(⟨pw,px,py,pk⟩:nv),oT,p7⟩:nh),oU,o,pb,qq,(⟨qC,qD,qs⟩:nC),(⟨pn,(⟨po⟩:ni),(⟨pr,pq⟩:nG)⟩:nk),qt,p_,qu,qv,qw,(⟨qb,qc,qd,qe,qf⟩:ox)⟩:ny)) (fun i o=>o.length≤i) ?_ ?_ ?_ (h.ot.length+1) [] (by simp) (by omega)).trans ?_
  ·intro i o hi ho
   simp only[List.length_append,List.length_cons,List.length_nil];omega
  ·intro n i o hi ho
   show te ke k_ (h.ot.length+1) h.ot (len h.ot) pb qq qC qD qs pn po pr pq qt qu qv qw nV pY pZ p6 pw px py p7 p_ qb qc qd qe qf nU pj pk oT oU (n+1) (i:Int) o=_
   rw[UH]
   have er:nv.enc (nv.nd (nth h.ot i) 0)=nth h.ot i:=nv.eta (hw _ (tI hi))
   have hb:uW (nv.nd (nth h.ot i) 0)=true:=t2 _ (tI hi)
   have eF:∀x:List DC,oY 48 o [x]=true:=fun x=>ry (by simp only[List.length_cons,List.length_nil];omega) (by omega)
   simp only[yY,oE,oL hi,nT hi,hb,eF,er,oa hi hl,Int.toNat_natCast,ng,nm,cond_true]
  ·intro n o ho
   show te ke k_ (h.ot.length+1) h.ot (len h.ot) pb qq qC qD qs pn po pr pq qt qu qv qw nV pY pZ p6 pw px py p7 p_ qb qc qd qe qf nU pj pk oT oU (n+1) (h.ot.length:Int) o=_
   rw[UH]
   simp only[yY,nN,cond_false,oE,u6,u7,u8,u9,u12,u13,u14,u15,q12,q13,q14,q15,ng,cond_true]
  ·exact congrArg (fun o=>k_ (⟨(⟨nU⟩:na),pj,(⟨(⟨nV,pY,pZ,p6⟩:nB),(⟨pw,px,py,pk⟩:nv),oT,p7⟩:nh),oU,o,pb,qq,(⟨qC,qD,qs⟩:nC),(⟨pn,(⟨po⟩:ni),(⟨pr,pq⟩:nG)⟩:nk),qt,p_,qu,qv,qw,(⟨qb,qc,qd,qe,qf⟩:ox)⟩:ny)) ((T0 (fun (o:Rows) (r:List DC)=>o++[r]) h.ot [] []).trans ((foldl_push (fun r=>r) h.ot []).trans (by simp)))
 exact key _ _ _ _ _ _ _ _ _ _ _ _ _ _ _ _ _ _ _ _ _ _ _ _ _ _ _ _ _ _ _ _ s6 s7 s8 s9 s10 s11 s12 s13 s14 s15
def Ob (k_:ny→α) (pT pb qq:Rows) (qC:Int) (qD:Bool) (qs pn po:Rows) (pr:Bytes) (pq qt qu qv qw:Rows) (nV pY pZ p6 pw px py p7:Int) (p_:Bool) (qb qc qd qe qf:Int) (nU pj pk oT oU:Rows) (oD:Int→Rows→α) (k:Int) (uD:Rows):α:=
 let z0:nk:=(⟨pn,(⟨po⟩:ni),(⟨pr,pq⟩:nG)⟩:nk)
 bif decide (k<len pT) then
  bif Eb (Eb (Eb true (idx k pT)) (uW (nv.nd (nth pT (Int.toNat k)) 0))) (oY 48 uD [nv.enc (oE (nv.nd (nth pT (Int.toNat k)) 0))]) then
   oD (nM (k+1)) (uD++[nv.enc (oE (nv.nd (nth pT (Int.toNat k)) 0))])
  else ke
 else bif Eb true (oY 40 [] pb) then
   bif Eb true (oY 1 [] qq) then
    bif Eb true (njK (⟨qC,qD,qs⟩:nC)) then
     bif Eb true (nac z0) then
      bif Eb true (oY 72 [] qt) then
       bif Eb true (oY 16 [] qu) then
        bif Eb true (oY 8 [] qv) then
         bif Eb true (oY 8 [] qw) then
          k_ (⟨(⟨nU⟩:na),pj,(⟨(⟨nV,pY,pZ,p6⟩:nB),(⟨pw,px,py,pk⟩:nv),oT,p7⟩:nh),oU,uD,pb,qq,oE (⟨qC,qD,qs⟩:nC),oE z0,qt,p_,qu,qv,qw,(⟨qb,qc,qd,qe,qf⟩:ox)⟩:ny)
         else ke
        else ke
       else ke
      else ke
     else ke
    else ke
   else ke
  else ke
def tT (k_:ny→α) (N:Nat) (pT pb qq:Rows) (qC:Int) (qD:Bool) (qs pn po:Rows) (pr:Bytes) (pq qt qu qv qw:Rows) (nV pY pZ p6 pw px py p7:Int) (p_:Bool) (qb qc qd qe qf:Int) (nU pj pk oT oU:Rows) (m_:Nat):Int→Rows→α:=
 Nat.rec (motive:=fun _=>Int→Rows→α) (fun _ _=>ke) (fun _ oD=>Ob ke k_ pT pb qq qC qD qs pn po pr pq qt qu qv qw nV pY pZ p6 pw px py p7 p_ qb qc qd qe qf nU pj pk oT oU oD) m_
theorem XV (k_:ny→α) (N:Nat) (pT pb qq:Rows) (qC:Int) (qD:Bool) (qs pn po:Rows) (pr:Bytes) (pq qt qu qv qw:Rows) (nV pY pZ p6 pw px py p7:Int) (p_:Bool) (qb qc qd qe qf:Int) (nU pj pk oT oU:Rows) (m_:Nat):tT ke k_ N pT pb qq qC qD qs pn po pr pq qt qu qv qw nV pY pZ p6 pw px py p7 p_ qb qc qd qe qf nU pj pk oT oU (m_+1)=Ob ke k_ pT pb qq qC qD qs pn po pr pq qt qu qv qw nV pY pZ p6 pw px py p7 p_ qb qc qd qe qf nU pj pk oT oU (tT ke k_ N pT pb qq qC qD qs pn po pr pq qt qu qv qw nV pY pZ p6 pw px py p7 p_ qb qc qd qe qf nU pj pk oT oU m_):=rfl
def Qi (k_:ny→α) (l0:Rows→Rows→Rows→Int→Bool→Rows→Rows→Rows→Bytes→Rows→Rows→Rows→Rows→Rows→Int→Int→Int→Int→Int→Int→Int→Int→Bool→Int→Int→Int→Int→Int→Rows→Rows→Rows→Rows→Rows→Int→Rows→α) (h:ny):α:=
 bif Eb true (sb h.ov) then
  bif Eb true (oY 32 [] h.Maps) then
   bif Eb true (zH h.Tx) then
    bif Eb true (oY 248 [] h.Rx) then
     l0 h.ot h.og h.pd h.Filter.Mac h.Filter.pS h.Filter.pH h.nz.oO h.nz.Table.nF h.nz.oF.Key h.nz.oF.Table h.pG h.wE h.oX h.pC (((oE h.Tx).Ring).oG) (((oE h.Tx).Ring).nL) (((oE h.Tx).Ring).Head) (((oE h.Tx).Ring).qG) (((oE h.Tx).nI).oG) (((oE h.Tx).nI).nL) (((oE h.Tx).nI).Count) ((oE h.Tx).Next) h.sj h.Counters.Frames h.Counters.Bad h.Counters.sk h.Counters.t5 h.Counters.OV ((oE h.ov).nE) h.Maps (((oE h.Tx).nI).oB) ((oE h.Tx).nr) h.Rx 0 []
    else ke
   else ke
  else ke
 else ke
def nfo (k_:ny→α) (N:Nat) (h:ny):α:=Qi ke k_ (fun pT pb qq qC qD qs pn po pr pq qt qu qv qw nV pY pZ p6 pw px py p7 p_ qb qc qd qe qf nU pj pk oT oU=>tT ke k_ N pT pb qq qC qD qs pn po pr pq qt qu qv qw nV pY pZ p6 pw px py p7 p_ qb qc qd qe qf nU pj pk oT oU N) h
theorem nv1 (k_:ny→α) (h:ny) (h_h:kc ny.ct h.enc) (aJ:t6 h=true):∃N,nfo ke k_ N h=k_ (oE h):=by
 obtain⟨hl,hw⟩:=oh (ny.nfx h_h)
 have HA:t6 h=true:=aJ
 simp only[t6,Bool.and_eq_true] at HA
 obtain⟨s0,s1,s2,s3,s4,s5,s6,s7,s8,s9,s10,s11,s12,s13,s14,s15⟩:=HA
 simp only[naT,Bool.and_eq_true,List.all_eq_true] at s5
 obtain⟨t1,t2⟩:=s5
 have l1:=sd t1
 have m2:zH h.Tx=true:=by simp only[zH,s2,s3,Bool.and_self]
 have r4:oY 248 [] h.Rx=true:=qA s4 (by omega)
 have r1:oY 32 [] h.Maps=true:=qA s1 (by omega)
 refine⟨h.ot.length+1, ?_⟩
 unfold nfo Qi
 rw[show sb h.ov=true from s0]
 simp only[m2,r4,r1,ng,cond_true]
 have key:∀(pb:Rows) (qq:Rows) (qC:Int) (qD:Bool) (qs:Rows) (pn:Rows) (po:Rows) (pr:Bytes) (pq:Rows) (qt:Rows) (qu:Rows) (qv:Rows) (qw:Rows) (nV:Int) (pY:Int) (pZ:Int) (p6:Int) (pw:Int) (px:Int) (py:Int) (p7:Int) (p_:Bool) (qb:Int) (qc:Int) (qd:Int) (qe:Int) (qf:Int) (nU:Rows) (pj:Rows) (pk:Rows) (oT:Rows) (oU:Rows),sm pb=true→sm qq=true→sm qs=true→sm pn=true→sm po=true→sm pq=true→sm qt=true→sm qu=true→sm qv=true→sm qw=true→
   tT ke k_ (h.ot.length+1) h.ot pb qq qC qD qs pn po pr pq qt qu qv qw nV pY pZ p6 pw px py p7 p_ qb qc qd qe qf nU pj pk oT oU (h.ot.length+1) 0 []=k_ (⟨(⟨nU⟩:na),pj,(⟨(⟨nV,pY,pZ,p6⟩:nB),(⟨pw,px,py,pk⟩:nv),oT,p7⟩:nh),oU,h.ot,pb,qq,(⟨qC,qD,qs⟩:nC),(⟨pn,(⟨po⟩:ni),(⟨pr,pq⟩:nG)⟩:nk),qt,p_,qu,qv,qw,(⟨qb,qc,qd,qe,qf⟩:ox)⟩:ny):=by
  intro pb qq qC qD qs pn po pr pq qt qu qv qw nV pY pZ p6 pw px py p7 p_ qb qc qd qe qf nU pj pk oT oU q6 q7 q8 q9 q10 q11 q12 q13 q14 q15
  have u6:oY 40 [] pb=true:=qA q6 (by omega)
  have u7:oY 1 [] qq=true:=qA q7 (by omega)
  have u8:njK (⟨qC,qD,qs⟩:nC)=true:=q8
  have u9:nac (⟨pn,(⟨po⟩:ni),(⟨pr,pq⟩:nG)⟩:nk)=true:=by simp only[nac,q9,q10,q11,Bool.and_self]
  have u12:oY 72 [] qt=true:=qA q12 (by omega)
  have u13:oY 16 [] qu=true:=qA q13 (by omega)
  have u14:oY 8 [] qv=true:=qA q14 (by omega)
  have u15:oY 8 [] qw=true:=qA q15 (by omega)
  refine (Nb h.ot.length (fun n i o=>tT ke k_ (h.ot.length+1) h.ot pb qq qC qD qs pn po pr pq qt qu qv qw nV pY pZ p6 pw px py p7 p_ qb qc qd qe qf nU pj pk oT oU n i o) (fun i o=>o++[nth h.ot i]) (fun o=>k_ (⟨(⟨nU⟩:na),pj,(⟨(⟨nV,pY,pZ,p6⟩:nB),(⟨pw,px,py,pk⟩:nv),oT,p7⟩:nh),oU,o,pb,qq,(⟨qC,qD,qs⟩:nC),(⟨pn,(⟨po⟩:ni),(⟨pr,pq⟩:nG)⟩:nk),qt,p_,qu,qv,qw,(⟨qb,qc,qd,qe,qf⟩:ox)⟩:ny)) (fun i o=>o.length≤i) ?_ ?_ ?_ (h.ot.length+1) [] (by simp) (by omega)).trans ?_
  ·intro i o hi ho
   simp only[List.length_append,List.length_cons,List.length_nil];omega
  ·intro n i o hi ho
   show tT ke k_ (h.ot.length+1) h.ot pb qq qC qD qs pn po pr pq qt qu qv qw nV pY pZ p6 pw px py p7 p_ qb qc qd qe qf nU pj pk oT oU (n+1) (i:Int) o=_
   rw[XV]
   have er:nv.enc (nv.nd (nth h.ot i) 0)=nth h.ot i:=nv.eta (hw _ (tI hi))
   have hb:uW (nv.nd (nth h.ot i) 0)=true:=t2 _ (tI hi)
   have eF:∀x:List DC,oY 48 o [x]=true:=fun x=>ry (by simp only[List.length_cons,List.length_nil];omega) (by omega)
   simp only[Ob,oE,oL hi,nT hi,hb,eF,er,oa hi hl,Int.toNat_natCast,ng,nm,cond_true]
  ·intro n o ho
   show tT ke k_ (h.ot.length+1) h.ot pb qq qC qD qs pn po pr pq qt qu qv qw nV pY pZ p6 pw px py p7 p_ qb qc qd qe qf nU pj pk oT oU (n+1) (h.ot.length:Int) o=_
   rw[XV]
   simp only[Ob,nN,cond_false,oE,u6,u7,u8,u9,u12,u13,u14,u15,q12,q13,q14,q15,ng,cond_true]
  ·exact congrArg (fun o=>k_ (⟨(⟨nU⟩:na),pj,(⟨(⟨nV,pY,pZ,p6⟩:nB),(⟨pw,px,py,pk⟩:nv),oT,p7⟩:nh),oU,o,pb,qq,(⟨qC,qD,qs⟩:nC),(⟨pn,(⟨po⟩:ni),(⟨pr,pq⟩:nG)⟩:nk),qt,p_,qu,qv,qw,(⟨qb,qc,qd,qe,qf⟩:ox)⟩:ny)) ((T0 (fun (o:Rows) (r:List DC)=>o++[r]) h.ot [] []).trans ((foldl_push (fun r=>r) h.ot []).trans (by simp)))
 exact key _ _ _ _ _ _ _ _ _ _ _ _ _ _ _ _ _ _ _ _ _ _ _ _ _ _ _ _ _ _ _ _ s6 s7 s8 s9 s10 s11 s12 s13 s14 s15
structure qo where
 Op:Int
 Flags:Int
 Len:Int
 At:Int
 nL:Int
 yn:Int
def qo.enc (x:qo):List DC:=[.int x.Op,.int x.Flags,.int x.Len,.int x.At,.int x.nL,.int x.yn]
def qo.nd (r:List DC) (o:Nat):qo:=⟨rI r (o+0),rI r (o+1),rI r (o+2),rI r (o+3),rI r (o+4),rI r (o+5)⟩
def qo.ct:List CT:=[.i,.i,.i,.i,.i,.i]
theorem qo.eta {r:List DC} (h:kc qo.ct r):(qo.nd r 0).enc=r:=(show (qo.nd r 0).enc=su qo.ct r 0 from by kernel_rfl).trans (qV h)
theorem qo.nA {r:List CT} {ds:List DC} (h:kc (qo.ct++r) ds):∃(x:qo) (aZ:List DC),ds=x.enc++aZ∧kc qo.ct x.enc∧kc r aZ:=by
 obtain⟨d1,d2,rfl,h1,h2⟩:=qk h
 exact⟨qo.nd d1 0,d2,by rw[qo.eta h1],by rw[qo.eta h1];exact h1,h2⟩
theorem qo.nB6 {x:qo} (h:kc qo.ct x.enc):G1 .i (.int x.Flags):=oz 1 h rfl rfl
theorem qo.nsZ {x:qo} (h:kc qo.ct x.enc):G1 .i (.int x.nL):=oz 4 h rfl rfl
theorem qo.nBn {x:qo} (h:kc qo.ct x.enc):G1 .i (.int x.yn):=oz 5 h rfl rfl
def nlP (k_:Int→α) (s:Bytes) (at_:Int):α:=
 bif !(rq s at_ 2) then k_ (-1)
 else bif Eb (Eb true (idx at_ s)) (idx (nM (at_+1)) s) then
   k_ (nM ((nAK .i64 (nM (SR s at_)) 8)+(nM (SR s (nM (at_+1))))))
  else ke
def Wt (s:Bytes) (at_:Int):Int:=bif !(rq s at_ 2) then -1 else (SR s at_)*256+SR s (at_+1)
theorem nze (k_:Int→α) (s:Bytes) (at_:Int) (RQ:G1 .str (.str s)):nlP ke k_ s at_=k_ (Wt s at_):=by
 have hl:=OC RQ
 have hl0:0≤len s:=by simp [len]
 have GG:len s≤9223372036854775807:=by simp only[len];omega
 unfold nlP Wt
 cases hw:rq s at_ 2
 ·rfl
 ·have hh:=(within_iff hl).1 hw
  have w1:nM (at_+1)=at_+1:=nQ (by omega) (by omega)
  have dR:∀j:Int,0≤j→j<len s→idx j s=true:=by
   intro j h1 h2
   simp only[len] at h2
   simp only[idx,Bool.and_eq_true,decide_eq_true_eq]
   omega
  have b0:=Yp s at_
  have c0:=Yo s at_
  have b1:=Yp s (at_+1)
  have c1:=Yo s (at_+1)
  simp only[w1,dR at_ (by omega) (by omega),dR (at_+1) (by omega) (by omega),ng,cond_true,cond_false,Bool.not_true]
  rw[nQ (n:=SR s at_) (by omega) (by omega),nQ (n:=SR s (at_+1)) (by omega) (by omega),nCi,nQ (n:=SR s at_*256) (by omega) (by omega),nQ (by omega) (by omega)]
def njU (k_:Int→α) (s:Bytes) (at_:Int):α:=
 bif bif decide (at_<0) then true else decide (nM ((len s) - 2)<at_) then k_ (-1)
 else bif Eb (Eb true (idx at_ s)) (idx (nM (at_+1)) s) then
   k_ (bits .or .i64 (nAK .i64 (nM (SR s at_)) 8) (nM (SR s (nM (at_+1)))))
  else ke
theorem nyR (k_:Int→α) (s:Bytes) (at_:Int) (RQ:G1 .str (.str s)):njU ke k_ s at_=k_ (Wt s at_):=by
 have hl:=OC RQ
 have hl0:0≤len s:=by simp [len]
 have GG:len s≤9223372036854775807:=by simp only[len];omega
 unfold njU Wt
 have nCJ:(bif decide (at_<0) then true else decide (nM (len s - 2)<at_))= !(rq s at_ 2):=by
  have h1:=within_iff (s:=s) (at_:=at_) (n:=2) hl
  rw[nQ (n:=len s - 2) (by omega) (by omega)]
  cases hw:rq s at_ 2
  ·by_cases h0:at_<0
   ·simp [h0]
   ·by_cases h2:len s - 2<at_
    ·simp [h0,h2]
    ·rw[h1.2 (by omega)] at hw
     cases hw
  ·have:=h1.1 hw
   simp [show ¬at_<0 by omega,show ¬len s - 2<at_ by omega]
 rw[nCJ]
 cases hw:rq s at_ 2
 ·rfl
 ·have hh:=(within_iff hl).1 hw
  have w1:nM (at_+1)=at_+1:=nQ (by omega) (by omega)
  have dR:∀j:Int,0≤j→j<len s→idx j s=true:=by
   intro j h1 h2
   simp only[len] at h2
   simp only[idx,Bool.and_eq_true,decide_eq_true_eq]
   omega
  have b0:=Yp s at_
  have c0:=Yo s at_
  have b1:=Yp s (at_+1)
  have c1:=Yo s (at_+1)
  simp only[w1,dR at_ (by omega) (by omega),dR (at_+1) (by omega) (by omega),ng,cond_true,cond_false,Bool.not_true]
  rw[nQ (n:=SR s at_) (by omega) (by omega),nQ (n:=SR s (at_+1)) (by omega) (by omega),nCi,nQ (n:=SR s at_*256) (by omega) (by omega),nAZ 8 (y:=SR s (at_+1)) (by omega) (by omega) (by omega) (by omega) (by omega) (by omega)]
def YK (k_:Int→Int→α) (image:Bytes):α:=
 let z0:Int:=bif (Wt image 12)==33024 then 18 else 14
 let z1:Int:=nM (z0+9)
 let z2:Bool:=decide (z1<len image)
 bif LV z2 (Eb true (idx z1 image)) true then
  k_ (nM (z0+10)) (nM ((nM (z0+20))+(vD (bif z2 then nM (SR image z1) else 0))))
 else ke
def qZ (s:Bytes):Int:=bif (Wt s 12)==33024 then 18 else 14
theorem njJ (s:Bytes):qZ s=14∨qZ s=18:=by
 unfold qZ
 cases (Wt s 12)==33024<;>simp
def nad (s:Bytes):Int×Int:=(qZ s+10,qZ s+20+vD (bif decide (qZ s+9<len s) then SR s (qZ s+9) else 0))
def PC (s:Bytes):Int×Int:=bif decide (len s<qZ s+46) then (-1, -1) else nad s
theorem nmF (k_:Int→Int→α) (image:Bytes) (nyK:G1 .str (.str image)):YK ke k_ image=k_ (nad image).1 (nad image).2:=by
 have hl:=OC nyK
 have hl0:0≤len image:=by simp [len]
 have GG:len image≤9223372036854775807:=by simp only[len];omega
 have ha:=njJ image
 have b0:=Yp image (qZ image+9)
 have c0:=Yo image (qZ image+9)
 unfold YK
 rw[show (bif (Wt image 12)==33024 then (18:Int) else 14)=qZ image from rfl]
 dsimp only
 have w9:nM (qZ image+9)=qZ image+9:=nQ (by omega) (by omega)
 have w10:nM (qZ image+10)=qZ image+10:=nQ (by omega) (by omega)
 have wv:nM (SR image (qZ image+9))=SR image (qZ image+9):=nQ (by omega) (by omega)
 have dR:qZ image+9<len image→idx (qZ image+9) image=true:=by
  intro h
  simp only[len] at h
  simp only[idx,Bool.and_eq_true,decide_eq_true_eq]
  omega
 have w20:nM (qZ image+20)=qZ image+20:=nQ (by omega) (by omega)
 have ws:∀v:Int,nM (qZ image+20+vD v)=qZ image+20+vD v:=by
  intro v
  rw[nfq]
  cases v==6
  ·exact nQ (by simp only[cond_false];omega) (by simp only[cond_false];omega)
  ·exact nQ (by simp only[cond_true];omega) (by simp only[cond_true];omega)
 rw[w9,w10,wv,w20,ws]
 exact pM (Z0 (fun h=>by rw[dR (of_decide_eq_true h)];rfl) (fun _=>rfl)) rfl
def nfk (k_:Int→Int→α) (s:Bytes):α:=
 let z0:Int:=bif (Wt s 12)==33024 then 18 else 14
 let z1:Int:=nM (z0+9)
 let z2:Int:=nM (z0+10)
 bif decide (len s<nM (z0+46)) then k_ (-1) (-1)
 else bif Eb true (idx z1 s) then
   bif (nM (SR s z1))==6 then k_ z2 (nM (z0+36))
   else k_ z2 (nM (z0+26))
  else ke
theorem nvW (k_:Int→Int→α) (s:Bytes) (RQ:G1 .str (.str s)):nfk ke k_ s=k_ (PC s).1 (PC s).2:=by
 have hl:=OC RQ
 have hl0:0≤len s:=by simp [len]
 have GG:len s≤9223372036854775807:=by simp only[len];omega
 have ha:=njJ s
 have b0:=Yp s (qZ s+9)
 have c0:=Yo s (qZ s+9)
 unfold nfk
 rw[show (bif (Wt s 12)==33024 then (18:Int) else 14)=qZ s from rfl]
 dsimp only
 have w9:nM (qZ s+9)=qZ s+9:=nQ (by omega) (by omega)
 have w10:nM (qZ s+10)=qZ s+10:=nQ (by omega) (by omega)
 have wv:nM (SR s (qZ s+9))=SR s (qZ s+9):=nQ (by omega) (by omega)
 have dR:qZ s+9<len s→idx (qZ s+9) s=true:=by
  intro h
  simp only[len] at h
  simp only[idx,Bool.and_eq_true,decide_eq_true_eq]
  omega
 have w46:nM (qZ s+46)=qZ s+46:=nQ (by omega) (by omega)
 have w36:nM (qZ s+36)=qZ s+36:=nQ (by omega) (by omega)
 have w26:nM (qZ s+26)=qZ s+26:=nQ (by omega) (by omega)
 rw[w9,w10,wv,w46,w36,w26]
 unfold PC
 by_cases h:len s<qZ s+46
 ·simp only[decide_eq_true h,cond_true]
 ·have h9:qZ s+9<len s:=by omega
  simp only[decide_eq_false h,cond_false,dR h9,ng,cond_true,nad,decide_eq_true h9,nfq]
  cases SR s (qZ s+9)==6
  ·simp only[cond_false]
   rw[show qZ s+20+6=qZ s+26 by omega]
  ·simp only[cond_true]
   rw[show qZ s+20+16=qZ s+36 by omega]
def nbw (k_:Bytes→Bool→α) (p:nx):α:=
 let z0:Bytes:=qY ((oq p).1) ((nad ((oq p).1)).1) (nJ 0)
 bif !((oq p).2) then k_ [] false
 else bif Eb (Eb true (oK ((oq p).1) ((nad ((oq p).1)).1) (nJ 0))) (oK z0 ((nad ((oq p).1)).2) (nJ 0)) then
   k_ (qY z0 ((nad ((oq p).1)).2) (nJ 0)) true
  else ke
theorem nA0 {a b:Bytes} {j:Nat} :SR (a++b) ((a.length+j:Nat):Int)=SR b (j:Int):=by
 simp only[SR,Int.toNat_natCast,List.getD_eq_getElem?_getD]
 rw[List.getElem?_append_right (by omega),Nat.add_sub_cancel_left]
theorem nAV {a:Int} (h0:0≤a) (h1:a≤281474976710655):(oS a).length=6:=by
 have e1:ndb .i64 a 32=a / 4294967296:=by
  unfold ndb
  rw[show min (Int.toNat 32) IntKind.i64.bits=32 by rfl,show (2 ^ 32:Int)=4294967296 by rfl]
  exact Int.fdiv_eq_ediv_of_nonneg a (by omega)
 have e2:bits .and .i64 a 4294967295=a % 4294967296:=ndg 32 (by decide) a
 unfold oS
 rw[e1,e2,List.length_append,nhv (by omega) (by omega),nzw (by omega) (by omega)]
theorem nBa {e:r_} (h:T7 e=true):0≤e.T6∧e.T6≤281474976710655∧0≤e.Src∧e.Src≤281474976710655∧46≤e.Body.length:=by
 unfold T7 yN at h
 cases h1:nf e.T6 0 281474976710655
 ·rw[h1] at h;cases h
 cases h2:nf e.Src 0 281474976710655
 ·rw[h1,h2] at h;cases h
 have a:=nS.1 h1
 have b:=nS.1 h2
 cases hb:nf (len e.Body) 46 400
 ·rw[hb] at h
  revert h
  cases nf e.T6 0 281474976710655<;>cases nf e.Src 0 281474976710655<;>cases nf e.sQ (-1) 4095<;>cases nf e.zI 1536 65535<;>cases e.zI != 33024<;>simp
 ·have:=nS.1 hb
  simp only[len] at this
  omega
theorem nzG {p:nx} (h:(oq p).2=true):qZ (oq p).1+46≤len (oq p).1:=by
 unfold oq at h ⊢
 cases hs:sY p
 ·rw[hs] at h;cases h
 rw[hs] at h
 simp only[Bool.not_true,cond_false] at h ⊢
 unfold uo at h ⊢
 cases he:T7 (p8 p)
 ·rw[he] at h;cases h
 simp only[Bool.not_true,cond_false]
 obtain⟨d0,d1,s0,s1,hb⟩:=nBa he
 have m1:=nAV d0 d1
 have m2:=nAV s0 s1
 have hty:(p8 p).zI=2048:=rfl
 have w8:nJ 2048=[8,0]:=by unfold nJ xA;rfl
 have hm:(oS (p8 p).T6++oS (p8 p).Src).length=12:=by rw[List.length_append,m1,m2]
 by_cases hv:0≤(p8 p).sQ
 ·have ho:=njJ (O3 (p8 p)++nJ (p8 p).zI++(p8 p).Body)
  have A3:(nJ 33024).length=2:=nhv (by omega) (by omega)
  have hv2:(p8 p).sQ≤4095:=by
   unfold T7 yN at he
   cases h3:nf (p8 p).sQ (-1) 4095
   ·rw[h3] at he
    revert he
    cases nf (p8 p).T6 0 281474976710655<;>cases nf (p8 p).Src 0 281474976710655<;>simp
   ·exact (nS.1 h3).2
  have hl:(O3 (p8 p)).length=16:=by
   unfold O3
   rw[decide_eq_true hv,cond_true,List.length_append,hm,List.length_append,A3,nhv (by omega) (by omega)]
  simp only[len,List.length_append,hl,hty,w8,List.length_cons,List.length_nil]
  simp only[hty,w8] at ho
  omega
 ·have hl:O3 (p8 p)=oS (p8 p).T6++oS (p8 p).Src:=by
   unfold O3
   rw[decide_eq_false hv,cond_false]
  rw[hl,hty,w8]
  have hg:Wt (oS (p8 p).T6++oS (p8 p).Src++[8,0]++(p8 p).Body) 12≠33024:=by
   unfold Wt
   have q0:SR (oS (p8 p).T6++oS (p8 p).Src++[8,0]++(p8 p).Body) 12=8:=by
    have:=nA0 (a:=oS (p8 p).T6++oS (p8 p).Src) (b:=[8,0]++(p8 p).Body) (j:=0)
    rw[hm,←List.append_assoc] at this
    exact this
   have q1:SR (oS (p8 p).T6++oS (p8 p).Src++[8,0]++(p8 p).Body) (12+1)=0:=by
    have:=nA0 (a:=oS (p8 p).T6++oS (p8 p).Src) (b:=[8,0]++(p8 p).Body) (j:=1)
    rw[hm,←List.append_assoc] at this
    exact this
   rw[q0,q1]
   cases !(rq (oS (p8 p).T6++oS (p8 p).Src++[8,0]++(p8 p).Body) 12 2)<;>simp
  have hf:((Wt (oS (p8 p).T6++oS (p8 p).Src++[8,0]++(p8 p).Body) 12)==33024)=false:=by simpa using hg
  unfold qZ
  rw[hf,cond_false]
  simp only[len,List.length_append,m1,m2,List.length_cons,List.length_nil]
  omega
theorem nBS {p:nx} (h:(oq p).2=true):PC (oq p).1=nad (oq p).1:=by
 have:=nzG h
 unfold PC
 rw[decide_eq_false (by omega),cond_false]
def nR (p:nx):Bytes×Bool:=bif !(oq p).2 then ([],false) else (qY (qY (oq p).1 (nad (oq p).1).1 (nJ 0)) (nad (oq p).1).2 (nJ 0),true)
theorem njG (p:nx):(nR p).1.length≤420:=by
 have hb:=OQ p
 unfold nR
 cases (oq p).2
 ·exact Nat.zero_le _
 ·simp only[Bool.not_true,cond_false]
  rw[sq (by rw[sq (by omega)];omega),sq (by omega)]
  exact hb
theorem npU (k_:Bytes→Bool→α) (p:nx):nbw ke k_ p=k_ (nR p).1 (nR p).2:=by
 have hb:=OQ p
 have hw:=nW 0
 unfold nbw nR
 refine pQ (K:=fun r:Bytes×Bool=>k_ r.1 r.2) (fun _=>rfl) (fun hg=> ?_)
 have o1:∀a,oK (oq p).1 a (nJ 0)=true:=fun a=>by
  simp only[oK,Bool.and_eq_true,decide_eq_true_eq];omega
 have o2:∀a b,oK (qY (oq p).1 a (nJ 0)) b (nJ 0)=true:=fun a b=>by
  simp only[oK,Bool.and_eq_true,decide_eq_true_eq]
  rw[sq (by omega)]
  omega
 simp only[o1,o2,ng,cond_true]
def ncX (k_:Bytes→Bool→α) (p:nx):α:=
 let z0:Bytes:=qY ((oq p).1) ((PC ((oq p).1)).1) (nJ 0)
 bif !((oq p).2) then k_ [] false
 else bif Eb (Eb true (oK ((oq p).1) ((PC ((oq p).1)).1) (nJ 0))) (oK z0 ((PC ((oq p).1)).2) (nJ 0)) then
   k_ (qY z0 ((PC ((oq p).1)).2) (nJ 0)) true
  else ke
theorem nsy (k_:Bytes→Bool→α) (p:nx):ncX ke k_ p=k_ (nR p).1 (nR p).2:=by
 have hb:=OQ p
 have hw:=nW 0
 unfold ncX nR
 refine pQ (K:=fun r:Bytes×Bool=>k_ r.1 r.2) (fun _=>rfl) (fun hg=> ?_)
 have es:=nBS (p:=p) (by simpa using hg)
 have o1:∀a,oK (oq p).1 a (nJ 0)=true:=fun a=>by
  simp only[oK,Bool.and_eq_true,decide_eq_true_eq];omega
 have o2:∀a b,oK (qY (oq p).1 a (nJ 0)) b (nJ 0)=true:=fun a b=>by
  simp only[oK,Bool.and_eq_true,decide_eq_true_eq]
  rw[sq (by omega)]
  omega
 simp only[es,o1,o2,ng,cond_true]
def Nw {α:Type} (k_:Int→α) (r:nB):α:=
 bif !(tx r) then k_ 0
 else k_ (nM (r.nL - (OT r)))
def xh (r:nB):Int:=Nw id r
theorem npD {α:Type} (k_:Int→α) (r:nB):Nw k_ r=k_ (xh r):=by
 exact J5 rfl rfl
def nsk {α:Type} (k_:Int→α) (r:nB):α:=
 bif !(tx r) then k_ 0
 else k_ (nM (r.nL - (OT r)))
theorem nsj {α:Type} (k_:Int→α) (r:nB):nsk k_ r=k_ (xh r):=by
 exact J5 rfl rfl
def yt {α:Type} (k_:Int→α) (p:nv) (k:Int):α:=
 bif bif !(qB p) then true else !(nf k 0 (nM (p.Count - 1))) then k_ (-1)
 else k_ (nM (p.oG+(nM (k*p.nL))))
def pI (p:nv) (k:Int):Int:=yt id p k
theorem ndp {α:Type} (k_:Int→α) (p:nv) (k:Int):yt k_ p k=k_ (pI p k):=by
 exact J5 rfl rfl
def neH {α:Type} (k_:Int→α) (p:nv) (k:Int):α:=
 bif bif !(qB p) then true else !(nf k 0 (nM (p.Count - 1))) then k_ (-1)
 else k_ (nM (p.oG+(nM (k*p.nL))))
theorem neF {α:Type} (k_:Int→α) (p:nv) (k:Int):neH k_ p k=k_ (pI p k):=by
 exact J5 rfl rfl
def XX {α:Type} (k_:Bool→α) (x:qo):α:=
 k_ (bif nf x.Op 0 3 then bif nf x.Flags 0 3 then bif nf x.Len 0 65535 then bif nf x.nL 0 65535 then bif nf x.yn 0 65535 then nf x.At 0 4294967295 else false else false else false else false else false)
def OR (x:qo):Bool:=XX id x
theorem nwf {α:Type} (k_:Bool→α) (x:qo):XX k_ x=k_ (OR x):=by
 rfl
def nxN {α:Type} (k_:Bool→α) (x:qo):α:=
 k_ (bif nf x.Op 0 3 then bif nf x.Flags 0 3 then bif nf x.Len 0 65535 then bif nf x.nL 0 65535 then bif nf x.yn 0 65535 then nf x.At 0 4294967295 else false else false else false else false else false)
theorem nxM {α:Type} (k_:Bool→α) (x:qo):nxN k_ x=k_ (OR x):=by
 exact rfl
def vm (k_:Int→α) (x:Rows) (nX:Int) (oD:Int→Int→α) (n oc:Int):α:=
 bif decide (oc<nX) then
  bif Eb true (idx oc x) then
   oD (nM (n+(rI (nth x (Int.toNat oc)) 1))) (nM (oc+1))
  else ke
 else k_ n
def rV (k_:Int→α) (N:Nat) (x:Rows) (nX:Int) (m_:Nat):Int→Int→α:=
 Nat.rec (motive:=fun _=>Int→Int→α) (fun _ _=>ke) (fun _ oD=>vm ke k_ x nX oD) m_
theorem PA (k_:Int→α) (N:Nat) (x:Rows) (nX:Int) (m_:Nat):rV ke k_ N x nX (m_+1)=vm ke k_ x nX (rV ke k_ N x nX m_):=rfl
def vY {α:Type} (ke:α) (k_:Int→α) (l0:Rows→Int→Int→Int→α) (q:nh):α:=
 l0 q.nr (len q.nr) 0 0
def Tn (k_:Int→α) (N:Nat) (q:nh):α:=vY ke k_ (fun x nX=>rV ke k_ N x nX N) q
def zh (q:nh):Int:=itN (fun i o=>nM (o+rI (nth q.nr i) 1)) q.nr.length 0 0
theorem nf1 (k_:Int→α) (q:nh) (h_q:kc nh.ct q.enc):∃N,Tn ke k_ N q=k_ (zh q):=by
 obtain⟨hl,hw⟩:=oh (nh.vR h_q)
 refine⟨q.nr.length+1, ?_⟩
 unfold Tn vY
 refine (Nb q.nr.length (fun n i o=>rV ke k_ (q.nr.length+1) q.nr (len q.nr) n o i) (fun i o=>nM (o+rI (nth q.nr i) 1)) k_ (fun _ _=>True) ?_ ?_ ?_ (q.nr.length+1) 0 trivial (by omega)).trans rfl
 ·intros;trivial
 ·intro n i o hi _
  show rV ke k_ (q.nr.length+1) q.nr (len q.nr) (n+1) o (i:Int)=_
  rw[PA]
  simp only[vm,oL hi,nT hi,oa hi hl,Int.toNat_natCast,ng,cond_true]
 ·intro n o _
  show rV ke k_ (q.nr.length+1) q.nr (len q.nr) (n+1) o (q.nr.length:Int)=_
  rw[PA]
  simp only[vm,nN,cond_false]
def zu (k_:Int→α) (sX:Rows) (oD:Int→Int→α) (n k:Int):α:=
 bif decide (k<len sX) then
  bif Eb true (idx k sX) then
   oD (nM (n+(rI (nth sX (Int.toNat k)) 1))) (nM (k+1))
  else ke
 else k_ n
def um (k_:Int→α) (N:Nat) (sX:Rows) (m_:Nat):Int→Int→α:=
 Nat.rec (motive:=fun _=>Int→Int→α) (fun _ _=>ke) (fun _ oD=>zu ke k_ sX oD) m_
theorem Wi (k_:Int→α) (N:Nat) (sX:Rows) (m_:Nat):um ke k_ N sX (m_+1)=zu ke k_ sX (um ke k_ N sX m_):=rfl
def Td {α:Type} (ke:α) (k_:Int→α) (l0:Rows→Int→Int→α) (q:nh):α:=
 l0 q.nr 0 0
def nc5 (k_:Int→α) (N:Nat) (q:nh):α:=Td ke k_ (fun sX=>um ke k_ N sX N) q
theorem nsN (k_:Int→α) (q:nh) (h_q:kc nh.ct q.enc):∃N,nc5 ke k_ N q=k_ (zh q):=by
 obtain⟨hl,hw⟩:=oh (nh.vR h_q)
 refine⟨q.nr.length+1, ?_⟩
 unfold nc5 Td
 refine (Nb q.nr.length (fun n i o=>um ke k_ (q.nr.length+1) q.nr n o i) (fun i o=>nM (o+rI (nth q.nr i) 1)) k_ (fun _ _=>True) ?_ ?_ ?_ (q.nr.length+1) 0 trivial (by omega)).trans rfl
 ·intros;trivial
 ·intro n i o hi _
  show um ke k_ (q.nr.length+1) q.nr (n+1) o (i:Int)=_
  rw[Wi]
  simp only[zu,oL hi,nT hi,oa hi hl,Int.toNat_natCast,ng,cond_true]
 ·intro n o _
  show um ke k_ (q.nr.length+1) q.nr (n+1) o (q.nr.length:Int)=_
  rw[Wi]
  simp only[zu,nN,cond_false]
def yT (k_:Bool→α) (list_ x:Rows) (nX:Int) (oD:Int→α) (oc:Int):α:=
 bif decide (oc<nX) then
  bif Eb true (idx oc x) then
   bif bif decide (rI (nth x (Int.toNat oc)) 0<0) then true else !(nf (rI (nth x (Int.toNat oc)) 1) 0 4096) then k_ false
   else oD (nM (oc+1))
  else ke
 else k_ (decide (len list_≤16))
def yS (k_:Bool→α) (N:Nat) (list_ x:Rows) (nX:Int) (m_:Nat):Int→α:=
 Nat.rec (motive:=fun _=>Int→α) (fun _=>ke) (fun _ oD=>yT ke k_ list_ x nX oD) m_
theorem Ur (k_:Bool→α) (N:Nat) (list_ x:Rows) (nX:Int) (m_:Nat):yS ke k_ N list_ x nX (m_+1)=yT ke k_ list_ x nX (yS ke k_ N list_ x nX m_):=rfl
def Nu {α:Type} (ke:α) (k_:Bool→α) (l0:Rows→Int→Int→α) (list_:Rows):α:=
 l0 list_ (len list_) 0
def nbk (k_:Bool→α) (N:Nat) (list_:Rows):α:=Nu ke k_ (fun x nX=>yS ke k_ N list_ x nX N) list_
def vi (list_:Rows):Bool:=bif qn (fun _ r=>bif decide (rI r 0<0) then true else !(nf (rI r 1) 0 4096)) list_ 0 then false else decide (len list_≤16)
theorem njD {l:Rows} (h:vi l=true):l.length≤16:=by
 unfold vi at h
 revert h
 cases qn (fun _ r=>bif decide (rI r 0<0) then true else !(nf (rI r 1) 0 4096)) l 0
 ·intro h
  have:=of_decide_eq_true h
  simp only[len] at this
  omega
 ·intro h;cases h
theorem npy (k_:Bool→α) (list_:Rows) (pE:G1 (.sl [.i,.i]) (.sl list_)):∃N,nbk ke k_ N list_=k_ (vi list_):=by
 obtain⟨hl,_⟩:=oh pE
 refine⟨list_.length+1, ?_⟩
 unfold nbk Nu
 refine (qS list_ (yS ke k_ (list_.length+1) list_ list_ (len list_)) (fun i r c=>bif bif decide (rI r 0<0) then true else !(nf (rI r 1) 0 4096) then k_ false else c) (k_ (decide (len list_≤16))) ?_ ?_).trans ?_
 ·intro n i h
  rw[Ur]
  simp only[yT,oL h,nT h,oa h hl,Int.toNat_natCast,ng,nm,cond_true,zG]
 ·intro n
  rw[Ur]
  simp only[yT,nN,cond_false,zG]
 ·refine (wi (fun _ r=>bif decide (rI r 0<0) then true else !(nf (rI r 1) 0 4096)) (k_ false) (k_ (decide (len list_≤16))) list_ 0).trans ?_
  exact J5 rfl rfl
def zp (k_:Bool→α) (list_:Rows) (oD:Int→α) (k:Int):α:=
 let z0:Bool:=decide (rI (nth list_ (Int.toNat k)) 0<0)
 bif decide (k<len list_) then
  bif LV z0 (Eb true (idx k list_)) (Eb (Eb true (idx k list_)) (idx k list_)) then
   bif bif z0 then true else !(nf (rI (nth list_ (Int.toNat k)) 1) 0 4096) then k_ false
   else oD (nM (k+1))
  else ke
 else k_ (decide (len list_≤16))
def zo (k_:Bool→α) (N:Nat) (list_:Rows) (m_:Nat):Int→α:=
 Nat.rec (motive:=fun _=>Int→α) (fun _=>ke) (fun _ oD=>zp ke k_ list_ oD) m_
theorem VT (k_:Bool→α) (N:Nat) (list_:Rows) (m_:Nat):zo ke k_ N list_ (m_+1)=zp ke k_ list_ (zo ke k_ N list_ m_):=rfl
def S3 {α:Type} (ke:α) (k_:Bool→α) (l0:Int→α) (list_:Rows):α:=
 l0 0
def ncJ (k_:Bool→α) (N:Nat) (list_:Rows):α:=S3 ke k_ (zo ke k_ N list_ N) list_
theorem nsc (k_:Bool→α) (list_:Rows) (pE:G1 (.sl [.i,.i]) (.sl list_)):∃N,ncJ ke k_ N list_=k_ (vi list_):=by
 obtain⟨hl,_⟩:=oh pE
 refine⟨list_.length+1, ?_⟩
 unfold ncJ S3
 refine (qS list_ (zo ke k_ (list_.length+1) list_) (fun i r c=>bif bif decide (rI r 0<0) then true else !(nf (rI r 1) 0 4096) then k_ false else c) (k_ (decide (len list_≤16))) ?_ ?_).trans ?_
 ·intro n i h
  rw[VT]
  simp only[zp,oL h,nT h,oa h hl,Int.toNat_natCast,ng,nm,cond_true,zG]
 ·intro n
  rw[VT]
  simp only[zp,nN,cond_false,zG]
 ·refine (wi (fun _ r=>bif decide (rI r 0<0) then true else !(nf (rI r 1) 0 4096)) (k_ false) (k_ (decide (len list_≤16))) list_ 0).trans ?_
  exact J5 rfl rfl
def Uv (k_:Int→α) (r:nB) (count:Int):α:=
 bif bif !(tx r) then true else decide (count<0) then k_ (-1)
 else bif Eb true (!(r.nL==0)) then
   k_ (nM (r.oG+(nM ((Int.tmod count r.nL)*16))))
  else ke
def rA (r:nB) (count:Int):Int:=bif bif !(tx r) then true else decide (count<0) then -1 else nM (r.oG+nM (Int.tmod count r.nL*16))
theorem nhJ (k_:Int→α) (r:nB) (count:Int):Uv ke k_ r count=k_ (rA r count):=by
 unfold Uv rA
 refine pQ (fun _=>rfl) (fun hg=> ?_)
 have hr:tx r=true:=by
  revert hg
  cases tx r<;>simp
 have hs:=OE hr
 have hz:(!(r.nL==0))=true:=by simp;omega
 simp only[hz,ng,cond_true]
def VX (k_:Int→α) (r:nB) (count:Int):α:=
 bif bif !(tx r) then true else decide (count<0) then k_ (-1)
 else bif Eb true (!(r.nL==0)) then
   k_ (nM (r.oG+(nM (16*(Int.tmod count r.nL)))))
  else ke
theorem nji (k_:Int→α) (r:nB) (count:Int):VX ke k_ r count=k_ (rA r count):=by
 unfold VX rA
 refine pQ (fun _=>rfl) (fun hg=> ?_)
 have hr:tx r=true:=by
  revert hg
  cases tx r<;>simp
 have hs:=OE hr
 have hz:(!(r.nL==0))=true:=by simp;omega
 simp only[hz,ng,cond_true,Int.mul_comm 16]
def Uz (k_:nv→Rows→Bool→α) (p:nv) (n:Int):α:=
 bif Eb true (uW p) then
  bif bif !(qB p) then true else !(nf n 0 (len p.oB)) then k_ (oE p) [] false
  else bif Eb (Eb true (okL p.oB n)) (sm (zw p.oB n)) then
    bif Eb (Eb true (okH p.oB n)) (sm (ym p.oB n)) then
     k_ (⟨(oE p).oG,(oE p).nL,(oE p).Count,oE (zw p.oB n)⟩:nv) (oE (ym p.oB n)) true
    else ke
   else ke
 else ke
def uq (p:nv) (n:Int):Bool:=uW p
def n7 (p:nv) (n:Int):nv×Rows×Bool:=bif bif !(qB p) then true else !(nf n 0 (len p.oB)) then (p,[],false) else (⟨p.oG,p.nL,p.Count,zw p.oB n⟩,ym p.oB n,true)
theorem nhR (k_:nv→Rows→Bool→α) (p:nv) (n:Int) (aJ:uq p n=true):Uz ke k_ p n=k_ (n7 p n).1 (n7 p n).2.1 (n7 p n).2.2:=by
 have hp:uW p=true:=aJ
 have hs:sm p.oB=true:=hp
 have hl:=sd hs
 unfold Uz n7
 rw[hp]
 refine nmf rfl |>.trans ?_
 refine pQ (K:=fun r:nv×Rows×Bool=>k_ r.1 r.2.1 r.2.2) (fun _=>rfl) (fun hg=> ?_)
 have hb:nf n 0 (len p.oB)=true:=by
  revert hg
  cases qB p<;>simp
 have hn:=nS.1 hb
 simp only[len] at hn
 have e1:okH p.oB n=true:=by simp only[okH,Bool.and_eq_true,decide_eq_true_eq];omega
 have e2:okL p.oB n=true:=by simp only[okL,Bool.and_eq_true,decide_eq_true_eq];omega
 have l1:(ym p.oB n).length≤p.oB.length:=by simp only[ym,List.length_drop,List.length_take];omega
 have l2:(zw p.oB n).length≤p.oB.length:=by simp only[zw,List.length_drop,List.length_take];omega
 have g1:sm (ym p.oB n)=true:=decide_eq_true (by omega)
 have g2:sm (zw p.oB n)=true:=decide_eq_true (by omega)
 simp only[e1,e2,g1,g2,ng,cond_true,oE]
def V4 (k_:nv→Rows→Bool→α) (p:nv) (n:Int):α:=
 bif Eb true (uW p) then
  bif bif !(qB p) then true else !(nf n 0 (len p.oB)) then k_ (oE p) [] false
  else bif Eb (Eb true (okH p.oB n)) (oY 8 [] (ym p.oB n)) then
    bif Eb (Eb true (okL p.oB n)) (oY 8 [] (zw p.oB n)) then
     k_ (⟨(oE p).oG,(oE p).nL,(oE p).Count,zw p.oB n⟩:nv) (ym p.oB n) true
    else ke
   else ke
 else ke
theorem njq (k_:nv→Rows→Bool→α) (p:nv) (n:Int) (aJ:uq p n=true):V4 ke k_ p n=k_ (n7 p n).1 (n7 p n).2.1 (n7 p n).2.2:=by
 have hp:uW p=true:=aJ
 have hs:sm p.oB=true:=hp
 have hl:=sd hs
 unfold V4 n7
 rw[hp]
 refine nmf rfl |>.trans ?_
 refine pQ (K:=fun r:nv×Rows×Bool=>k_ r.1 r.2.1 r.2.2) (fun _=>rfl) (fun hg=> ?_)
 have hb:nf n 0 (len p.oB)=true:=by
  revert hg
  cases qB p<;>simp
 have hn:=nS.1 hb
 simp only[len] at hn
 have e1:okH p.oB n=true:=by simp only[okH,Bool.and_eq_true,decide_eq_true_eq];omega
 have e2:okL p.oB n=true:=by simp only[okL,Bool.and_eq_true,decide_eq_true_eq];omega
 have l1:(ym p.oB n).length≤p.oB.length:=by simp only[ym,List.length_drop,List.length_take];omega
 have l2:(zw p.oB n).length≤p.oB.length:=by simp only[zw,List.length_drop,List.length_take];omega
 have g1:oY 8 [] (ym p.oB n)=true:=ry (by simp only[List.length_nil];omega) (by omega)
 have g2:oY 8 [] (zw p.oB n)=true:=ry (by simp only[List.length_nil];omega) (by omega)
 simp only[e1,e2,g1,g2,ng,cond_true,oE]
def Wv (k_:Bytes→α) (x:qo):α:=
 let z0:Bytes:=(toStr ([[.int (IntKind.wrap .u8 x.Op)],[.int (IntKind.wrap .u8 x.Flags)]]))++(nJ x.Len)
 let z1:Bytes:=z0++(oJ x.At)
 let z2:Bytes:=z1++(nJ x.nL)
 let z3:Bytes:=z2++(nJ x.yn)
 bif !(OR x) then k_ []
 else bif Eb (Eb (Eb (Eb (Eb true (ou (toStr ([[.int (IntKind.wrap .u8 x.Op)],[.int (IntKind.wrap .u8 x.Flags)]])) (nJ x.Len))) (ou z0 (oJ x.At))) (ou z1 (nJ x.nL))) (ou z2 (nJ x.yn))) (ou z3 (oJ 0)) then
   k_ (z3++(oJ 0))
  else ke
def vE (x:qo):Bytes:=bif !(OR x) then [] else toStr ([[.int (IntKind.wrap .u8 x.Op)],[.int (IntKind.wrap .u8 x.Flags)]])++nJ x.Len++oJ x.At++nJ x.nL++nJ x.yn++oJ 0
theorem njQ (k_:Bytes→α) (x:qo):Wv ke k_ x=k_ (vE x):=by
 have a:=nW x.Len
 have b:=pB x.At
 have c:=nW x.nL
 have d:=nW x.yn
 have e:=pB 0
 unfold Wv vE
 refine pQ (fun _=>rfl) (fun hg=> ?_)
 refine pM (by simp only[gn,ou,ss,List.length_append,pO,List.length_cons,List.length_nil,decide_eq_true_eq,true_and,and_true];omega) rfl
def XF (k_:Bytes→α) (x:qo):α:=
 let z0:Bytes:=(toStr ([[.int (IntKind.wrap .u8 x.Op)],[.int (IntKind.wrap .u8 x.Flags)]]))++(nJ x.Len)
 let z1:Bytes:=z0++(oJ x.At)
 let z2:Bytes:=z1++(nJ x.nL)
 let z3:Bytes:=z2++(nJ x.yn)
 bif !(OR x) then k_ []
 else bif Eb (Eb (Eb (Eb (Eb true (ou (toStr ([[.int (IntKind.wrap .u8 x.Op)],[.int (IntKind.wrap .u8 x.Flags)]])) (nJ x.Len))) (ou z0 (oJ x.At))) (ou z1 (nJ x.nL))) (ou z2 (nJ x.yn))) (ou z3 (oJ 0)) then
   k_ (z3++(oJ 0))
  else ke
theorem nlL (k_:Bytes→α) (x:qo):XF ke k_ x=k_ (vE x):=by
 have a:=nW x.Len
 have b:=pB x.At
 have c:=nW x.nL
 have d:=nW x.yn
 have e:=pB 0
 unfold XF vE
 refine pQ (fun _=>rfl) (fun hg=> ?_)
 refine pM (by simp only[gn,ou,ss,List.length_append,pO,List.length_cons,List.length_nil,decide_eq_true_eq,true_and,and_true];omega) rfl
def sA (k_:Rows→α) (l1:Rows→Rows→Int→Int→α) (pieces:Rows) (cookie:Int) (x:Rows) (nX:Int) (oD:Int→Rows→α) (oc:Int) (nV:Rows):α:=
 bif decide (oc<nX) then
  bif Eb true (idx oc x) then
   bif oc==(nM ((len pieces) - 1)) then
    bif Eb true (oY 48 nV ([[.int 1,.int 1,.int (rI (nth x (Int.toNat oc)) 1),.int (rI (nth x (Int.toNat oc)) 0),.int 0,.int cookie]])) then
     oD (nM (oc+1)) (nV++([[.int 1,.int 1,.int (rI (nth x (Int.toNat oc)) 1),.int (rI (nth x (Int.toNat oc)) 0),.int 0,.int cookie]]))
    else ke
   else bif Eb true (oY 48 nV ([[.int 1,.int 0,.int (rI (nth x (Int.toNat oc)) 1),.int (rI (nth x (Int.toNat oc)) 0),.int 0,.int cookie]])) then
     oD (nM (oc+1)) (nV++([[.int 1,.int 0,.int (rI (nth x (Int.toNat oc)) 1),.int (rI (nth x (Int.toNat oc)) 0),.int 0,.int cookie]]))
    else ke
  else ke
 else l1 nV nV (len nV) 0
def sB (k_:Rows→α) (nV OO:Rows) (xf:Int) (ih1:Int→α) (OD:Int):α:=
 bif decide (OD<xf) then
  bif Eb true (idx OD OO) then
   bif !(OR (qo.nd (nth OO (Int.toNat OD)) 0)) then k_ []
   else ih1 (nM (OD+1))
  else ke
 else k_ nV
def pR (k_:Rows→α) (N:Nat) (nV OO:Rows) (xf:Int) (m_:Nat):Int→α:=
 Nat.rec (motive:=fun _=>Int→α) (fun _=>ke) (fun _ ih1=>sB ke k_ nV OO xf ih1) m_
theorem zO (k_:Rows→α) (N:Nat) (nV OO:Rows) (xf:Int) (m_:Nat):pR ke k_ N nV OO xf (m_+1)=sB ke k_ nV OO xf (pR ke k_ N nV OO xf m_):=rfl
def qx (k_:Rows→α) (N:Nat) (pieces:Rows) (cookie:Int) (x:Rows) (nX:Int) (m_:Nat):Int→Rows→α:=
 Nat.rec (motive:=fun _=>Int→Rows→α) (fun _ _=>ke) (fun _ oD=>sA ke k_ (fun nV OO xf=>pR ke k_ N nV OO xf N) pieces cookie x nX oD) m_
theorem zN (k_:Rows→α) (N:Nat) (pieces:Rows) (cookie:Int) (x:Rows) (nX:Int) (m_:Nat) (oc:Int) (nV:Rows):qx ke k_ N pieces cookie x nX (m_+1) oc nV=sA ke k_ (fun nV OO xf=>pR ke k_ N nV OO xf N) pieces cookie x nX (qx ke k_ N pieces cookie x nX m_) oc nV:=rfl
def uS {α:Type} (ke:α) (k_:Rows→α) (l0:Rows→Int→Int→Rows→α) (pieces:Rows) (size cookie:Int):α:=
 bif bif (len pieces)==0 then true else bif !(vi pieces) then true else !(nf size 1 128) then k_ []
 else l0 pieces (len pieces) 0 ([[.int 2,.int 0,.int 0,.int 0,.int size,.int cookie]])
def uR (k_:Rows→α) (N:Nat) (pieces:Rows) (size cookie:Int):α:=uS ke k_ (fun x nX=>qx ke k_ N pieces cookie x nX N) pieces size cookie
def nmg (n:Nat) (cookie:Int) (i:Nat) (r:List DC):List DC:=[.int 1,.int (bif ((i:Nat):Int)==nM ((n:Int) - 1) then 1 else 0),.int (rI r 1),.int (rI r 0),.int 0,.int cookie]
def Wr (n:Nat) (cookie:Int):Rows→Nat→Rows
 | [],_=>[]
 | r::rs,i=>nmg n cookie i r::Wr n cookie rs (i+1)
theorem ntc (n:Nat) (cookie:Int):∀(l:Rows) (i:Nat),(Wr n cookie l i).length=l.length
 | [],_=>rfl
 | r::rs,i=>by simp only[Wr,List.length_cons,ntc n cookie rs (i+1)]
def ndh (r:List DC):Bool:= !(OR (qo.nd r 0))
def Qy (size cookie:Int):List DC:=[.int 2,.int 0,.int 0,.int 0,.int size,.int cookie]
def pN (pieces:Rows) (size cookie:Int):Rows:=
 bif bif (len pieces)==0 then true else bif !(vi pieces) then true else !(nf size 1 128) then []
 else bif (Qy size cookie::Wr pieces.length cookie pieces 0).any ndh then [] else Qy size cookie::Wr pieces.length cookie pieces 0
theorem nCv {α:Type} (n:Nat) (cookie:Int) (x:α) (fin:Rows→α):∀(l:Rows) (i:Nat) (o:Rows),
  rO (σ:=Rows) (fun i r c o=>bif ndh (nmg n cookie i r) then x else c (o++[nmg n cookie i r])) fin l i o=bif (Wr n cookie l i).any ndh then x else fin (o++Wr n cookie l i)
 | [],_,o=>by simp [rO,Wr]
 | r::rs,i,o=>by
  simp only[rO,Wr,List.any_cons]
  cases ndh (nmg n cookie i r)
  ·have:=nCv n cookie x fin rs (i+1) (o++[nmg n cookie i r])
   simp only[cond_false,Bool.false_or]
   rw[this,List.append_assoc]
   rfl
  ·rfl
theorem nCw {α:Type} (n:Nat) (cookie:Int) (fin:Rows→α):∀(l:Rows) (i:Nat) (o:Rows),
  rO (σ:=Rows) (fun i r c o=>c (o++[nmg n cookie i r])) fin l i o=fin (o++Wr n cookie l i)
 | [],_,o=>by simp [rO,Wr]
 | r::rs,i,o=>by
  simp only[rO,Wr]
  have:=nCw n cookie fin rs (i+1) (o++[nmg n cookie i r])
  rw[this,List.append_assoc]
  rfl
theorem VI {α:Type} (list:Rows) (L:Nat→Int→Rows→α) (step:Nat→List DC→(Rows→α)→Rows→α) (fin:Rows→α) (z:Nat)
  (hc:∀i r (c d:Rows→α) s,(∀s',s'.length=s.length+1→c s'=d s')→step i r c s=step i r d s)
  (hs:∀n (i:Nat) s,i<list.length→s.length=z+i→L (n+1) (i:Int) s=step i (nth list i) (L n ((i:Int)+1)) s)
  (he:∀n s,s.length=z+list.length→L (n+1) (list.length:Int) s=fin s):∀(m i:Nat) (s:Rows) (n:Nat),i+m=list.length→m<n→s.length=z+i→L n (i:Int) s=rO step fin (list.drop i) i s
 | 0,i,s,n,h,hn,hz=>by
  obtain⟨n,rfl⟩:∃q,n=q+1:=⟨n - 1,by omega⟩
  have:i=list.length:=by omega
  subst this
  rw[he n s hz,List.drop_length]
  rfl
 | m+1,i,s,n,h,hn,hz=>by
  obtain⟨n,rfl⟩:∃q,n=q+1:=⟨n - 1,by omega⟩
  have cn:i<list.length:=by omega
  rw[hs n i s cn hz,List.drop_eq_getElem_cons cn]
  have Mz:nth list i=list[i]:=by simp [nth,List.getD_eq_getElem?_getD,cn]
  show _=step i list[i] (rO step fin (list.drop (i+1)) (i+1)) s
  rw[←Mz]
  refine hc _ _ _ _ _ (fun s' BL=> ?_)
  exact VI list L step fin z hc hs he m (i+1) s' n (by omega) (by omega) (by omega)
theorem nc8 (k_:Rows→α) (pieces:Rows) (size cookie:Int) (Ug:G1 (.sl [.i,.i]) (.sl pieces)):∃N,uR ke k_ N pieces size cookie=k_ (pN pieces size cookie):=by
 obtain⟨hl,hw⟩:=oh Ug
 refine⟨pieces.length+2, ?_⟩
 unfold uR uS pN
 have eF:∀(o:Rows) (x:List DC),o.length≤100→oY 48 o [x]=true:=fun o x h=>ry (by simp only[List.length_cons,List.length_nil];omega) (by omega)
 refine pQ (fun _=>rfl) (fun hg=> ?_)
 have hp:vi pieces=true:=by
  revert hg
  cases (len pieces)==0<;>cases vi pieces<;>simp
 have nC7:=njD hp
 have key:=VI pieces (fun n i o=>qx ke k_ (pieces.length+2) pieces cookie pieces (len pieces) n i o) (fun i r c o=>c (o++[nmg pieces.length cookie i r])) (fun o=>pR ke k_ (pieces.length+2) o o (len o) (pieces.length+2) 0) 1 (fun i r c d s h=>h _ (by simp)) ?_ ?_ pieces.length 0 [Qy size cookie] (pieces.length+2) (by omega) (by omega) (by simp)
 ·refine key.trans ?_
  rw[List.drop_zero,nCw]
  have hL:([Qy size cookie]++Wr pieces.length cookie pieces 0).length+0=pieces.length+1:=by simp [ntc]
  generalize hO:[Qy size cookie]++Wr pieces.length cookie pieces 0=O at hL
  have hO2:Qy size cookie::Wr pieces.length cookie pieces 0=O:=hO
  rw[hO2]
  refine (vL O (fun n i=>pR ke k_ (pieces.length+2) O O (len O) n i) (fun i r c=>bif ndh r then k_ [] else c) (k_ O) ?_ ?_ (pieces.length+2) (by omega)).trans ?_
  ·intro n i hi
   show pR ke k_ (pieces.length+2) O O (len O) (n+1) (i:Int)=_
   rw[zO]
   simp only[sB,oL hi,nT hi,oa hi (show O.length≤9223372036854775807 by omega),Int.toNat_natCast,ng,cond_true]
   rfl
  ·intro n
   show pR ke k_ (pieces.length+2) O O (len O) (n+1) (O.length:Int)=_
   rw[zO]
   simp only[sB,nN,cond_false]
  ·have e:∀(l:Rows) (i:Nat),rO (σ:=Unit) (fun i r c s=>bif ndh r then k_ [] else c s) (fun _=>k_ O) l i ()=bif l.any ndh then k_ [] else k_ O:=by
    intro l
    induction l with
    | nil=>intro i;rfl
    | cons r rs ih=>
     intro i
     simp only[rO,List.any_cons]
     cases ndh r
     ·exact ih (i+1)
     ·rfl
   exact (e O 0).trans (J5 rfl rfl)
 ·intro n i o hi ho
  show qx ke k_ (pieces.length+2) pieces cookie pieces (len pieces) (n+1) (i:Int) o=_
  rw[zN]
  simp only[sA,oL hi,nT hi,oa hi hl,Int.toNat_natCast,eF o _ (by omega),ng,cond_true,nmg]
  simp only[len]
  cases ((i:Nat):Int)==nM ((pieces.length:Int) - 1)<;>rfl
 ·intro n o ho
  show qx ke k_ (pieces.length+2) pieces cookie pieces (len pieces) (n+1) (pieces.length:Int) o=_
  rw[zN]
  simp only[sA,nN,cond_false]
def t_ (k_:Rows→α) (pieces:Rows) (cookie:Int) (oD:Int→Rows→α) (k:Int) (nV:Rows):α:=
 bif decide (k<len pieces) then
  bif Eb (Eb true (idx k pieces)) (idx k pieces) then
   bif k==(nM ((len pieces) - 1)) then
    bif !(OR (⟨1,1,rI (nth pieces (Int.toNat k)) 1,rI (nth pieces (Int.toNat k)) 0,0,cookie⟩:qo)) then k_ []
    else bif Eb true (oY 48 nV ([[.int 1,.int 1,.int (rI (nth pieces (Int.toNat k)) 1),.int (rI (nth pieces (Int.toNat k)) 0),.int 0,.int cookie]])) then
      oD (nM (k+1)) (nV++([[.int 1,.int 1,.int (rI (nth pieces (Int.toNat k)) 1),.int (rI (nth pieces (Int.toNat k)) 0),.int 0,.int cookie]]))
     else ke
   else bif !(OR (⟨1,0,rI (nth pieces (Int.toNat k)) 1,rI (nth pieces (Int.toNat k)) 0,0,cookie⟩:qo)) then k_ []
   else bif Eb true (oY 48 nV ([[.int 1,.int 0,.int (rI (nth pieces (Int.toNat k)) 1),.int (rI (nth pieces (Int.toNat k)) 0),.int 0,.int cookie]])) then
     oD (nM (k+1)) (nV++([[.int 1,.int 0,.int (rI (nth pieces (Int.toNat k)) 1),.int (rI (nth pieces (Int.toNat k)) 0),.int 0,.int cookie]]))
    else ke
  else ke
 else k_ nV
def ru (k_:Rows→α) (N:Nat) (pieces:Rows) (cookie:Int) (m_:Nat):Int→Rows→α:=
 Nat.rec (motive:=fun _=>Int→Rows→α) (fun _ _=>ke) (fun _ oD=>t_ ke k_ pieces cookie oD) m_
theorem Ng (k_:Rows→α) (N:Nat) (pieces:Rows) (cookie:Int) (m_:Nat):ru ke k_ N pieces cookie (m_+1)=t_ ke k_ pieces cookie (ru ke k_ N pieces cookie m_):=rfl
def xF {α:Type} (ke:α) (k_:Rows→α) (l0:Int→Rows→α) (pieces:Rows) (size cookie:Int):α:=
 bif bif (len pieces)==0 then true else bif !(vi pieces) then true else bif !(nf size 1 128) then true else !(OR (qo.nd (nth ([[.int 2,.int 0,.int 0,.int 0,.int size,.int cookie]]) 0) 0)) then k_ []
 else l0 0 ([[.int 2,.int 0,.int 0,.int 0,.int size,.int cookie]])
def Qv (k_:Rows→α) (N:Nat) (pieces:Rows) (size cookie:Int):α:=xF ke k_ (ru ke k_ N pieces cookie N) pieces size cookie
theorem ndc (k_:Rows→α) (pieces:Rows) (size cookie:Int) (Ug:G1 (.sl [.i,.i]) (.sl pieces)):∃N,Qv ke k_ N pieces size cookie=k_ (pN pieces size cookie):=by
 obtain⟨hl,hw⟩:=oh Ug
 refine⟨pieces.length+2, ?_⟩
 unfold Qv xF pN
 have eF:∀(o:Rows) (x:List DC),o.length≤100→oY 48 o [x]=true:=fun o x h=>ry (by simp only[List.length_cons,List.length_nil];omega) (by omega)
 have nC4:(!(OR (qo.nd (nth ([[.int 2,.int 0,.int 0,.int 0,.int size,.int cookie]]) 0) 0)))=ndh (Qy size cookie):=rfl
 rw[nC4]
 have hre:∀(a b c:Bool) (R:Rows),(bif bif a then true else bif b then true else bif c then true else ndh (Qy size cookie) then k_ [] else bif (Wr pieces.length cookie pieces 0).any ndh then k_ [] else k_ R)=k_ (bif bif a then true else bif b then true else c then [] else bif (Qy size cookie::Wr pieces.length cookie pieces 0).any ndh then [] else R):=by
  intro a b c R
  simp only[List.any_cons]
  cases a<;>cases b<;>cases c<;>cases ndh (Qy size cookie)<;>cases (Wr pieces.length cookie pieces 0).any ndh<;>rfl
 refine Eq.trans ?_ (hre _ _ _ _)
 refine cond_congr rfl (fun _=>rfl) (fun hg=> ?_)
 have hp:vi pieces=true:=by
  revert hg
  cases (len pieces)==0<;>cases vi pieces<;>simp
 have nC7:=njD hp
 have key:=VI pieces (fun n i o=>ru ke k_ (pieces.length+2) pieces cookie n i o) (fun i r c o=>bif ndh (nmg pieces.length cookie i r) then k_ [] else c (o++[nmg pieces.length cookie i r])) (fun o=>k_ o) 1 (fun i r c d s h=>by rw[h _ (by simp)]) ?_ ?_ pieces.length 0 [Qy size cookie] (pieces.length+2) (by omega) (by omega) (by simp)
 ·refine key.trans ?_
  rw[List.drop_zero,nCv]
  rfl
 ·intro n i o hi ho
  show ru ke k_ (pieces.length+2) pieces cookie (n+1) (i:Int) o=_
  rw[Ng]
  simp only[t_,oL hi,nT hi,oa hi hl,Int.toNat_natCast,eF o _ (by omega),ng,cond_true,nmg]
  simp only[len]
  cases ((i:Nat):Int)==nM ((pieces.length:Int) - 1)<;>rfl
 ·intro n o ho
  show ru ke k_ (pieces.length+2) pieces cookie (n+1) (pieces.length:Int) o=_
  rw[Ng]
  simp only[t_,nN,cond_false]
def ndx (k_:na→nB→Bool→α) (list_:Rows) (m:na) (domain:Int) (r:nB) (entry:Bytes):α:=
 let z0:na×Bool:=rD list_ m domain (rA r r.qG) entry
 bif bif (xh r)==0 then true else (len entry) != 16 then
  bif Eb true (sb m) then
   k_ (oE m) r false
  else ke
 else bif Eb true (ua list_ m domain (rA r r.qG) entry) then
   bif !z0.2 then k_ z0.1 r false
   else bif Eb true (!((nM (2*r.nL))==0)) then
     k_ z0.1 (⟨r.oG,r.nL,r.Head,Int.tmod (nM (r.qG+1)) (nM (2*r.nL))⟩:nB) true
    else ke
  else ke
theorem nyw:∀(m a:Nat) (s:Bytes) (l:Rows),(noG m a s l).length=l.length
 | 0,_,_,_=>rfl
 | m+1,a,s,l=>by
  unfold noG
  cases decide (0<s.length)
  ·rfl
  ·rw[cond_true,nyw m]
   simp [Rt]
theorem nme (m:na) (a:Int) (s:Bytes):(qh m a s).1.nE.length=m.nE.length:=by
 unfold qh
 cases !(within m a (len s))
 ·exact nyw _ _ _ _
 ·rfl
theorem nyo:∀(r:Rows) (s:Bytes) (l:Rows),(nxK r s l).length=l.length
 | [],_,_=>rfl
 | r::rs,s,l=>by
  unfold nxK
  rw[nyo rs,nme]
theorem nzY (l:Rows) (m:na) (d a:Int) (s:Bytes) (w:Bool):(put l m d a s w).1.nE.length=m.nE.length:=by
 unfold put
 cases !(sa l m d a (len s) w).2
 ·exact nyo _ _ _
 ·rfl
theorem nCP {l:Rows} {m:na} {d a:Int} {s:Bytes} {w:Bool} (h:(put l m d a s w).2=false):(put l m d a s w).1=m:=by
 unfold put at h ⊢
 cases hr:(sa l m d a (len s) w).2
 ·rfl
 ·rw[hr] at h;cases h
def sr {α:Type} (list_:Rows) (m:na) (domain:Int) (r:nB) (entry:α):Bool:=sm m.nE
def tr (list_:Rows) (m:na) (domain:Int) (r:nB) (entry:Bytes):na×nB×Bool:=
 bif bif (xh r)==0 then true else (len entry) != 16 then (m,r,false)
 else bif !(rD list_ m domain (rA r r.qG) entry).2 then (m,r,false)
 else ((rD list_ m domain (rA r r.qG) entry).1,⟨r.oG,r.nL,r.Head,Int.tmod (nM (r.qG+1)) (nM (2*r.nL))⟩,true)
theorem nal (list_:Rows) (m:na) (domain:Int) (r:nB) (entry:Bytes):(tr list_ m domain r entry).1.nE.length=m.nE.length:=by
 unfold tr
 cases (bif (xh r)==0 then true else (len entry) != 16)
 ·cases !(rD list_ m domain (rA r r.qG) entry).2
  ·exact nzY _ _ _ _ _ _
  ·rfl
 ·rfl
theorem ntB (k_:na→nB→Bool→α) (list_:Rows) (m:na) (domain:Int) (r:nB) (entry:Bytes) (aJ:sr list_ m domain r entry=true):ndx ke k_ list_ m domain r entry=k_ (tr list_ m domain r entry).1 (tr list_ m domain r entry).2.1 (tr list_ m domain r entry).2.2:=by
 have hm:sb m=true:=aJ
 have hdw:∀a,ua list_ m domain a entry=true:=fun a=>aJ
 unfold ndx tr
 dsimp only
 refine pQ (K:=fun r:na×nB×Bool=>k_ r.1 r.2.1 r.2.2) (fun _=>by rw[hm];rfl) (fun hg=> ?_)
 rw[hdw]
 simp only[ng,cond_true]
 have hr:tx r=true:=by
  revert hg
  unfold xh Nw
  cases tx r<;>simp
 have hs:=OE hr
 have hz:(!((nM (2*r.nL))==0))=true:=by
  rw[nQ (by omega) (by omega)]
  simp;omega
 refine pQ (K:=fun r:na×nB×Bool=>k_ r.1 r.2.1 r.2.2) (fun hn=> ?_) (fun _=>by rw[hz];rfl)
 have hn:(rD list_ m domain (rA r r.qG) entry).2=false:=by simpa using hn
 rw[show (rD list_ m domain (rA r r.qG) entry).1=m from nCP hn]
def neP (k_:na→nB→Bool→α) (list_:Rows) (m:na) (domain:Int) (r:nB) (entry:Bytes):α:=
 let z0:na×Bool:=rD list_ m domain (rA r r.qG) entry
 bif bif (xh r)==0 then true else (len entry) != 16 then
  bif Eb true (sb m) then
   k_ (oE m) r false
  else ke
 else bif Eb true (ua list_ m domain (rA r r.qG) entry) then
   bif !z0.2 then
    bif Eb true (sb m) then
     k_ (oE m) r false
    else ke
   else bif Eb true (!((nM (2*r.nL))==0)) then
     k_ z0.1 (⟨r.oG,r.nL,r.Head,Int.tmod (nM (r.qG+1)) (nM (2*r.nL))⟩:nB) true
    else ke
  else ke
theorem nvn (k_:na→nB→Bool→α) (list_:Rows) (m:na) (domain:Int) (r:nB) (entry:Bytes) (aJ:sr list_ m domain r entry=true):neP ke k_ list_ m domain r entry=k_ (tr list_ m domain r entry).1 (tr list_ m domain r entry).2.1 (tr list_ m domain r entry).2.2:=by
 have hm:sb m=true:=aJ
 have hdw:∀a,ua list_ m domain a entry=true:=fun a=>aJ
 unfold neP tr
 dsimp only
 refine pQ (K:=fun r:na×nB×Bool=>k_ r.1 r.2.1 r.2.2) (fun _=>by rw[hm];rfl) (fun hg=> ?_)
 rw[hdw]
 simp only[ng,cond_true]
 have hr:tx r=true:=by
  revert hg
  unfold xh Nw
  cases tx r<;>simp
 have hs:=OE hr
 have hz:(!((nM (2*r.nL))==0))=true:=by
  rw[nQ (by omega) (by omega)]
  simp;omega
 refine pQ (K:=fun r:na×nB×Bool=>k_ r.1 r.2.1 r.2.2) (fun hn=> ?_) (fun _=>by rw[hz];rfl)
 rw[hm];rfl
def wN (k_:na→nB→Bool→α) (list_:Rows) (domain:Int) (entries:Rows) (nX:Int) (qH:Rows) (r_1 r_2 r_3 r_4:Int) (oD:Int→Int→Int→Int→Int→Rows→α) (oc next niV niW niX:Int) (nU:Rows):α:=
 let z0:na×nB×Bool:=tr list_ (⟨nU⟩:na) domain (⟨next,niV,niW,niX⟩:nB) (rS (nth entries (Int.toNat oc)) 0)
 let z1:nB:=z0.2.1
 bif decide (oc<nX) then
  bif Eb true (idx oc entries) then
   bif Eb true (sr list_ (⟨nU⟩:na) domain (⟨next,niV,niW,niX⟩:nB) (rS (nth entries (Int.toNat oc)) 0)) then
    bif !z0.2.2 then
     bif Eb true (sb (⟨qH⟩:na)) then
      k_ (oE (⟨qH⟩:na)) (⟨r_1,r_2,r_3,r_4⟩:nB) false
     else ke
    else oD (nM (oc+1)) z1.oG z1.nL z1.Head z1.qG z0.1.nE
   else ke
  else ke
 else k_ (⟨nU⟩:na) (⟨next,niV,niW,niX⟩:nB) true
def tc (k_:na→nB→Bool→α) (N:Nat) (list_:Rows) (domain:Int) (entries:Rows) (nX:Int) (qH:Rows) (r_1 r_2 r_3 r_4:Int) (m_:Nat):Int→Int→Int→Int→Int→Rows→α:=
 Nat.rec (motive:=fun _=>Int→Int→Int→Int→Int→Rows→α) (fun _ _ _ _ _ _=>ke) (fun _ oD=>wN ke k_ list_ domain entries nX qH r_1 r_2 r_3 r_4 oD) m_
theorem RW (k_:na→nB→Bool→α) (N:Nat) (list_:Rows) (domain:Int) (entries:Rows) (nX:Int) (qH:Rows) (r_1 r_2 r_3 r_4:Int) (m_:Nat):tc ke k_ N list_ domain entries nX qH r_1 r_2 r_3 r_4 (m_+1)=wN ke k_ list_ domain entries nX qH r_1 r_2 r_3 r_4 (tc ke k_ N list_ domain entries nX qH r_1 r_2 r_3 r_4 m_):=rfl
def xJ (k_:na→nB→Bool→α) (l0:Int→Rows→Int→Int→Int→Int→Int→Int→Int→Int→Int→Rows→α) (list_:Rows) (m:na) (domain:Int) (r:nB) (entries:Rows):α:=
 bif Eb true (sb m) then
  l0 (len entries) m.nE r.oG r.nL r.Head r.qG 0 r.oG r.nL r.Head r.qG ((oE m).nE)
 else ke
def WC (k_:na→nB→Bool→α) (N:Nat) (list_:Rows) (m:na) (domain:Int) (r:nB) (entries:Rows):α:=xJ ke k_ (fun nX qH r_1 r_2 r_3 r_4=>tc ke k_ N list_ domain entries nX qH r_1 r_2 r_3 r_4 N) list_ m domain r entries
def rpP (list_:Rows) (domain:Int) (e:List DC) (s:na×nB):Bool:= !(tr list_ s.1 domain s.2 (rS e 0)).2.2
def rpF (list_:Rows) (domain:Int) (e:List DC) (s:na×nB):na×nB:=((tr list_ s.1 domain s.2 (rS e 0)).1,(tr list_ s.1 domain s.2 (rS e 0)).2.1)
def pK (list_:Rows) (m:na) (domain:Int) (r:nB) (entries:Rows):na×nB×Bool:=Qj (rpP list_ domain) (rpF list_ domain) (m,r,false) (fun s=>(s.1,s.2,true)) entries (m,r)
theorem njX (k_:na→nB→Bool→α) (list_:Rows) (m:na) (domain:Int) (r:nB) (entries:Rows) (Qz:G1 (.sl [.str]) (.sl entries)) (aJ:sr list_ m domain r entries=true):∃N,WC ke k_ N list_ m domain r entries=k_ (pK list_ m domain r entries).1 (pK list_ m domain r entries).2.1 (pK list_ m domain r entries).2.2:=by
 obtain⟨hl,hw⟩:=oh Qz
 have hm:sb m=true:=aJ
 have Kz:sb (⟨m.nE⟩:na)=true:=aJ
 refine⟨entries.length+1, ?_⟩
 unfold WC xJ pK
 rw[hm]
 refine (nmf rfl).trans ?_
 refine (ZZ entries (fun n i (s:na×nB)=>tc ke k_ (entries.length+1) list_ domain entries (len entries) m.nE r.oG r.nL r.Head r.qG n i s.2.oG s.2.nL s.2.Head s.2.qG s.1.nE) (rpP list_ domain) (rpF list_ domain) (k_ m r false) (fun s=>k_ s.1 s.2 true) (fun _ s=>sm s.1.nE=true) ?_ ?_ ?_ (m,r) aJ).trans ?_
 ·intro i s hi hs _
  refine decide_eq_true ?_
  show (tr list_ s.1 domain s.2 (rS (nth entries i) 0)).1.nE.length≤16777216
  rw[nal]
  exact sd hs
 ·intro n i s hi hs
  show tc ke k_ (entries.length+1) list_ domain entries (len entries) m.nE r.oG r.nL r.Head r.qG (n+1) (i:Int) s.2.oG s.2.nL s.2.Head s.2.qG s.1.nE=_
  rw[RW]
  have nCL:∀q:nB,sr list_ (⟨s.1.nE⟩:na) domain q (rS (nth entries i) 0)=true:=fun _=>hs
  simp only[wN,oL hi,nT hi,oa hi hl,Int.toNat_natCast,nCL,Kz,ng,cond_true]
  rfl
 ·intro n s hs
  show tc ke k_ (entries.length+1) list_ domain entries (len entries) m.nE r.oG r.nL r.Head r.qG (n+1) (entries.length:Int) s.2.oG s.2.nL s.2.Head s.2.qG s.1.nE=_
  rw[RW]
  simp only[wN,nN,cond_false]
 ·exact ntd (fun z:na×nB×Bool=>k_ z.1 z.2.1 z.2.2) (rpP list_ domain) (rpF list_ domain) (x:=(m,r,false)) (fun s=>(s.1,s.2,true)) entries (m,r)
def w_ (k_:na→nB→Bool→α) (list_:Rows) (domain:Int) (entries qH:Rows) (r_1 r_2 r_3 r_4:Int) (oD:Int→Int→Int→Int→Int→Rows→α) (k x nX oc OO:Int) (nU:Rows):α:=
 let z0:na×nB×Bool:=tr list_ (⟨nU⟩:na) domain (⟨x,nX,oc,OO⟩:nB) (rS (nth entries (Int.toNat k)) 0)
 let z1:nB:=z0.2.1
 bif decide (k<len entries) then
  bif Eb (Eb true (idx k entries)) (sr list_ (⟨nU⟩:na) domain (⟨x,nX,oc,OO⟩:nB) (rS (nth entries (Int.toNat k)) 0)) then
   bif !z0.2.2 then
    bif Eb true (sb (⟨qH⟩:na)) then
     k_ (oE (⟨qH⟩:na)) (⟨r_1,r_2,r_3,r_4⟩:nB) false
    else ke
   else oD (nM (k+1)) z1.oG z1.nL z1.Head z1.qG z0.1.nE
  else ke
 else k_ (⟨nU⟩:na) (⟨x,nX,oc,OO⟩:nB) true
def tl (k_:na→nB→Bool→α) (N:Nat) (list_:Rows) (domain:Int) (entries qH:Rows) (r_1 r_2 r_3 r_4:Int) (m_:Nat):Int→Int→Int→Int→Int→Rows→α:=
 Nat.rec (motive:=fun _=>Int→Int→Int→Int→Int→Rows→α) (fun _ _ _ _ _ _=>ke) (fun _ oD=>w_ ke k_ list_ domain entries qH r_1 r_2 r_3 r_4 oD) m_
theorem R_ (k_:na→nB→Bool→α) (N:Nat) (list_:Rows) (domain:Int) (entries qH:Rows) (r_1 r_2 r_3 r_4:Int) (m_:Nat):tl ke k_ N list_ domain entries qH r_1 r_2 r_3 r_4 (m_+1)=w_ ke k_ list_ domain entries qH r_1 r_2 r_3 r_4 (tl ke k_ N list_ domain entries qH r_1 r_2 r_3 r_4 m_):=rfl
def yg (k_:na→nB→Bool→α) (l0:Rows→Int→Int→Int→Int→Int→Int→Int→Int→Int→Rows→α) (list_:Rows) (m:na) (domain:Int) (r:nB) (entries:Rows):α:=
 bif Eb true (sb m) then
  l0 m.nE r.oG r.nL r.Head r.qG 0 r.oG r.nL r.Head r.qG ((oE m).nE)
 else ke
def XK (k_:na→nB→Bool→α) (N:Nat) (list_:Rows) (m:na) (domain:Int) (r:nB) (entries:Rows):α:=yg ke k_ (fun qH r_1 r_2 r_3 r_4=>tl ke k_ N list_ domain entries qH r_1 r_2 r_3 r_4 N) list_ m domain r entries
theorem nlT (k_:na→nB→Bool→α) (list_:Rows) (m:na) (domain:Int) (r:nB) (entries:Rows) (Qz:G1 (.sl [.str]) (.sl entries)) (aJ:sr list_ m domain r entries=true):∃N,XK ke k_ N list_ m domain r entries=k_ (pK list_ m domain r entries).1 (pK list_ m domain r entries).2.1 (pK list_ m domain r entries).2.2:=by
 obtain⟨hl,hw⟩:=oh Qz
 have hm:sb m=true:=aJ
 have Kz:sb (⟨m.nE⟩:na)=true:=aJ
 refine⟨entries.length+1, ?_⟩
 unfold XK yg pK
 rw[hm]
 refine (nmf rfl).trans ?_
 refine (ZZ entries (fun n i (s:na×nB)=>tl ke k_ (entries.length+1) list_ domain entries m.nE r.oG r.nL r.Head r.qG n i s.2.oG s.2.nL s.2.Head s.2.qG s.1.nE) (rpP list_ domain) (rpF list_ domain) (k_ m r false) (fun s=>k_ s.1 s.2 true) (fun _ s=>sm s.1.nE=true) ?_ ?_ ?_ (m,r) aJ).trans ?_
 ·intro i s hi hs _
  refine decide_eq_true ?_
  show (tr list_ s.1 domain s.2 (rS (nth entries i) 0)).1.nE.length≤16777216
  rw[nal]
  exact sd hs
 ·intro n i s hi hs
  show tl ke k_ (entries.length+1) list_ domain entries m.nE r.oG r.nL r.Head r.qG (n+1) (i:Int) s.2.oG s.2.nL s.2.Head s.2.qG s.1.nE=_
  rw[R_]
  have nCL:∀q:nB,sr list_ (⟨s.1.nE⟩:na) domain q (rS (nth entries i) 0)=true:=fun _=>hs
  simp only[w_,oL hi,nT hi,oa hi hl,Int.toNat_natCast,nCL,Kz,ng,cond_true]
  rfl
 ·intro n s hs
  show tl ke k_ (entries.length+1) list_ domain entries m.nE r.oG r.nL r.Head r.qG (n+1) (entries.length:Int) s.2.oG s.2.nL s.2.Head s.2.qG s.1.nE=_
  rw[R_]
  simp only[w_,nN,cond_false]
 ·exact ntd (fun z:na×nB×Bool=>k_ z.1 z.2.1 z.2.2) (rpP list_ domain) (rpF list_ domain) (x:=(m,r,false)) (fun s=>(s.1,s.2,true)) entries (m,r)
def vU (k_:na→Rows→Bool→α) (list_:Rows) (domain cut:Int) (oH:Rows) (nX p_1 p_2 NX:Int) (Ql:Rows) (oD:Bytes→Int→Rows→Rows→α) (tq:Bytes) (oc:Int) (pieces m_0:Rows):α:=
 let z0:Bytes:=ym tq (vw cut (len tq))
 let z1:Int:=len z0
 let z2:Int:=pI (⟨p_1,p_2,NX,Ql⟩:nv) (rI (nth oH (Int.toNat oc)) 0)
 let z3:na×Bool:=rp list_ (⟨m_0⟩:na) domain z2 z0
 bif decide (oc<nX) then
  bif Eb true (idx oc oH) then
   bif Eb true (okH tq (vw cut (len tq))) then
    bif Eb true (okL tq z1) then
     bif Eb true (sn list_ (⟨m_0⟩:na) domain z2 z0) then
      bif !z3.2 then k_ (⟨m_0⟩:na) [] false
      else bif Eb true (oY 16 pieces ([[.int z2,.int z1]])) then
        oD (zw tq z1) (nM (oc+1)) (pieces++([[.int z2,.int z1]])) z3.1.nE
       else ke
     else ke
    else ke
   else ke
  else ke
 else k_ (⟨m_0⟩:na) pieces true
def vT (k_:na→Rows→Bool→α) (N:Nat) (list_:Rows) (domain cut:Int) (oH:Rows) (nX p_1 p_2 NX:Int) (Ql:Rows) (m_:Nat):Bytes→Int→Rows→Rows→α:=
 Nat.rec (motive:=fun _=>Bytes→Int→Rows→Rows→α) (fun _ _ _ _=>ke) (fun _ oD=>vU ke k_ list_ domain cut oH nX p_1 p_2 NX Ql oD) m_
theorem Qo (k_:na→Rows→Bool→α) (N:Nat) (list_:Rows) (domain cut:Int) (oH:Rows) (nX p_1 p_2 NX:Int) (Ql:Rows) (m_:Nat):vT ke k_ N list_ domain cut oH nX p_1 p_2 NX Ql (m_+1)=vU ke k_ list_ domain cut oH nX p_1 p_2 NX Ql (vT ke k_ N list_ domain cut oH nX p_1 p_2 NX Ql m_):=rfl
def wS {α:Type} (ke:α) (k_:na→Rows→Bool→α) (l0:Int→Int→Int→Int→Rows→Bytes→Int→Rows→Rows→α) (list_:Rows) (m:na) (domain:Int) (p:nv) (oH:Rows) (t:Bytes) (cut:Int):α:=
 l0 (len oH) p.oG p.nL p.Count p.oB t 0 [] m.nE
def UP (k_:na→Rows→Bool→α) (N:Nat) (list_:Rows) (m:na) (domain:Int) (p:nv) (oH:Rows) (t:Bytes) (cut:Int):α:=wS ke k_ (fun nX p_1 p_2 NX Ql=>vT ke k_ N list_ domain cut oH nX p_1 p_2 NX Ql N) list_ m domain p oH t cut
def nc7 (list_:Rows) (domain:Int) (p:nv) (cut:Int):Rows→Bytes→na→Rows→na×Rows×Bool
 | [],_,m,o=>(m,o,true)
 | b::bs,t,m,o=>
  bif !(rp list_ m domain (pI p (rI b 0)) (t.take cut.toNat)).2 then (m,[],false)
  else nc7 list_ domain p cut bs (t.drop cut.toNat) (rp list_ m domain (pI p (rI b 0)) (t.take cut.toNat)).1 (o++[[.int (pI p (rI b 0)),.int (len (t.take cut.toNat))]])
def nfD (list_:Rows) (m:na) (domain:Int) (p:nv) (oH:Rows) (t:Bytes) (cut:Int):Bool:=sm list_ && (sm m.nE && (decide (0≤cut) && decide (oH.length≤1000)))
def qi (list_:Rows) (m:na) (domain:Int) (p:nv) (oH:Rows) (t:Bytes) (cut:Int):na×Rows×Bool:=nc7 list_ domain p cut oH t m []
theorem T9 (l:Rows) (m:na) (d a:Int) (s:Bytes):(rp l m d a s).1.nE.length=m.nE.length:=nzY _ _ _ _ _ _
theorem nia (k_:na→Rows→Bool→α) (list_:Rows) (m:na) (domain:Int) (p:nv) (oH:Rows) (t:Bytes) (cut:Int) (nmi:G1 (.sl [.i]) (.sl oH)) (h_t:G1 .str (.str t)) (nBQ:G1 .i (.int cut)) (aJ:nfD list_ m domain p oH t cut=true):∃N,UP ke k_ N list_ m domain p oH t cut=k_ (qi list_ m domain p oH t cut).1 (qi list_ m domain p oH t cut).2.1 (qi list_ m domain p oH t cut).2.2:=by
 obtain⟨hl,hw⟩:=oh nmi
 have htl:=OC h_t
 have hc:=xG nBQ
 have HA:=aJ
 simp only[nfD,Bool.and_eq_true,decide_eq_true_eq] at HA
 obtain⟨s0,s1,s2,s3⟩:=HA
 refine⟨oH.length+1, ?_⟩
 unfold UP wS qi
 have key:∀(q i:Nat) (t:Bytes) (m:na) (o:Rows) (n:Nat),i+q=oH.length→q<n→t.length≤9223372036854775807→sm m.nE=true→o.length≤i→
   vT ke k_ (oH.length+1) list_ domain cut oH (len oH) p.oG p.nL p.Count p.oB n t (i:Int) o m.nE=(fun z:na×Rows×Bool=>k_ z.1 z.2.1 z.2.2) (nc7 list_ domain p cut (oH.drop i) t m o):=by
  intro q
  induction q with
  | zero=>
   intro i t m o n h1 h2 h3 h4 h5
   obtain⟨n,rfl⟩:∃q,n=q+1:=⟨n - 1,by omega⟩
   have hi:i=oH.length:=by omega
   subst hi
   rw[Qo,List.drop_length]
   simp only[vU,nN,cond_false,nc7]
  | succ q ih=>
   intro i t m o n h1 h2 h3 h4 h5
   obtain⟨n,rfl⟩:∃q,n=q+1:=⟨n - 1,by omega⟩
   have hi:i<oH.length:=by omega
   have e0:oH[i]=nth oH i:=by simp [nth,hi]
   rw[Qo,List.drop_eq_getElem_cons hi,e0]
   have x1:ym t (vw cut (len t))=t.take cut.toNat:=by
    simp only[ym,List.drop_zero]
    unfold vw
    by_cases cn:len t<cut
    ·rw[if_pos cn]
     simp only[len] at cn ⊢
     rw[List.take_of_length_le (by omega),List.take_of_length_le (by omega)]
    ·rw[if_neg cn]
   have x2:okH t (vw cut (len t))=true:=by
    simp only[okH,Bool.and_eq_true,decide_eq_true_eq]
    unfold vw
    by_cases cn:len t<cut
    ·rw[if_pos cn];simp only[len];omega
    ·rw[if_neg cn];simp only[len] at cn ⊢;omega
   have x3:zw t (len (t.take cut.toNat))=t.drop cut.toNat:=by
    simp only[zw,List.take_length,len,Int.toNat_natCast,List.length_take]
    by_cases cn:t.length<cut.toNat
    ·rw[List.drop_of_length_le (by omega),List.drop_of_length_le (by omega)]
    ·rw[Nat.min_eq_left (by omega)]
   have x4:okL t (len (t.take cut.toNat))=true:=by
    simp only[okL,Bool.and_eq_true,decide_eq_true_eq,len,List.length_take]
    omega
   have x5:∀a b,sn list_ (⟨m.nE⟩:na) domain a b=true:=fun a b=>by
    simp only[sn,s0,h4,Bool.and_self]
   have x6:∀x:List DC,oY 16 o [x]=true:=fun x=>ry (by simp only[List.length_cons,List.length_nil];omega) (by omega)
   have this:=ih (i+1) (t.drop cut.toNat) (rp list_ m domain (pI p (rI (nth oH i) 0)) (t.take cut.toNat)).1 (o++[[.int (pI p (rI (nth oH i) 0)),.int (len (t.take cut.toNat))]]) n (by omega) (by omega) (by rw[List.length_drop];omega) (decide_eq_true (by rw[T9];exact sd h4)) (by simp only[List.length_append,List.length_cons,List.length_nil];omega)
   have w1:nM ((i:Int)+1)=((i+1:Nat):Int):=by rw[nQ (by omega) (by omega)];omega
   simp only[vU,oL hi,nT hi,Int.toNat_natCast,x1,x2,x3,x4,x5,x6,w1,ng,cond_true,nc7]
   refine pQ (K:=fun z:na×Rows×Bool=>k_ z.1 z.2.1 z.2.2) (fun _=>rfl) (fun _=> ?_)
   exact this
 exact key oH.length 0 t m [] (oH.length+1) (by omega) (by omega) htl s1 (Nat.le_refl _)
theorem nBW {b:Bool} (h:(!b)=false):b=true:=by cases b<;>simp_all
theorem Ue {b:Bool} (h:b=true):Eb true b=true:=by rw[h];rfl
theorem nys {p:nx} :(oq p).2=sY p:=by
 unfold oq
 cases hs:sY p
 ·rfl
 have he:T7 (p8 p)=true:=by
  have hb:=nzu (nzs (⟨p.Tos,p.Id,p.Ttl,p.tU.Kind,p.ql,p.qK,(rL p.ql p.qK p.tU).1⟩:wF)) (show 46≤400 by omega)
  have h1:nf p.we 0 281474976710655=true∧nf p.wg 0 281474976710655=true∧nf p.sQ (-1) 4095=true:=by
   unfold sY Ps at hs
   revert hs
   cases nf p.we 0 281474976710655<;>cases nf p.wg 0 281474976710655<;>cases nf p.sQ (-1) 4095<;>simp
  have h2:nf (len (p8 p).Body) 46 400=true:=nS.2 ⟨by simp only[len,p8];omega,by simp only[len,p8];omega⟩
  have h3:nf (p8 p).zI 1536 65535=true:=by rfl
  have h4:((p8 p).zI != 33024)=true:=by rfl
  unfold T7 yN
  simp only[show nf (p8 p).T6 0 281474976710655=true from h1.1,show nf (p8 p).Src 0 281474976710655=true from h1.2.1,show nf (p8 p).sQ (-1) 4095=true from h1.2.2,h2,h3,h4,cond_true,id]
 simp only[Bool.not_true,cond_false]
 unfold uo
 rw[he]
 rfl
theorem nyE (p:nx):(nR p).2=sY p:=by
 rw[←nys]
 unfold nR
 cases (oq p).2<;>rfl
theorem nwb {p:nx} (h:sY p=true):60≤(nR p).1.length:=by
 have hi:(oq p).2=true:=by rw[nys];exact h
 have h1:=nzG hi
 have h2:=njJ (oq p).1
 have hb:=OQ p
 unfold nR
 rw[hi]
 simp only[Bool.not_true,cond_false]
 rw[sq (by rw[sq (by omega)];omega),sq (by omega)]
 simp only[len] at h1
 omega
theorem nyJ {α:Type} (f:List DC→List DC) (fin:Rows→α):∀(l:Rows) (i:Nat) (o:Rows),rO (σ:=Rows) (fun _ r c o=>c (o++[f r])) fin l i o=fin (o++l.map f)
 | [],_,o=>by simp [rO]
 | r::rs,i,o=>by
  simp only[rO]
  have:=nyJ f fin rs (i+1) (o++[f r])
  rw[this,List.append_assoc]
  rfl
def wO (k_:na→nh→Bool→α) (list_:Rows) (domain:Int) (qW x:Rows) (nX xt uX xu xv qR lN Xu Xv Xw Xx Xy Xz XA pw px py:Int) (oH PT ye XB re wz Oz:Rows) (oD:Int→Rows→α) (oc:Int) (entries:Rows):α:=
 let z0:na×nB×Bool:=pK list_ (⟨Oz⟩:na) domain (⟨xt,uX,xu,xv⟩:nB) entries
 bif decide (oc<nX) then
  bif Eb true (idx oc x) then
   bif Eb true (oY 16 entries ([[.str (vE (qo.nd (nth x (Int.toNat oc)) 0))]])) then
    oD (nM (oc+1)) (entries++([[.str (vE (qo.nd (nth x (Int.toNat oc)) 0))]]))
   else ke
  else ke
 else bif Eb true (sr list_ (⟨Oz⟩:na) domain (⟨xt,uX,xu,xv⟩:nB) entries) then
   bif !z0.2.2 then k_ (⟨PT⟩:na) (⟨(⟨lN,Xu,Xv,Xw⟩:nB),(⟨Xx,Xy,Xz,ye⟩:nv),XB,XA⟩:nh) false
   else bif Eb true (oY 40 wz ([[.int qR,.int (len qW),.sl oH]])) then
     k_ z0.1 (⟨z0.2.1,(⟨pw,px,py,re⟩:nv),wz++([[.int qR,.int (len qW),.sl oH]]),Int.tmod (nM (qR+1)) 65536⟩:nh) true
    else ke
  else ke
def uv (k_:na→nh→Bool→α) (N:Nat) (list_:Rows) (domain:Int) (qW x:Rows) (nX xt uX xu xv qR lN Xu Xv Xw Xx Xy Xz XA pw px py:Int) (oH PT ye XB re wz Oz:Rows) (m_:Nat):Int→Rows→α:=
 Nat.rec (motive:=fun _=>Int→Rows→α) (fun _ _=>ke) (fun _ oD=>wO ke k_ list_ domain qW x nX xt uX xu xv qR lN Xu Xv Xw Xx Xy Xz XA pw px py oH PT ye XB re wz Oz oD) m_
theorem RX (k_:na→nh→Bool→α) (N:Nat) (list_:Rows) (domain:Int) (qW x:Rows) (nX xt uX xu xv qR lN Xu Xv Xw Xx Xy Xz XA pw px py:Int) (oH PT ye XB re wz Oz:Rows) (m_:Nat):uv ke k_ N list_ domain qW x nX xt uX xu xv qR lN Xu Xv Xw Xx Xy Xz XA pw px py oH PT ye XB re wz Oz (m_+1)=wO ke k_ list_ domain qW x nX xt uX xu xv qR lN Xu Xv Xw Xx Xy Xz XA pw px py oH PT ye XB re wz Oz (uv ke k_ N list_ domain qW x nX xt uX xu xv qR lN Xu Xv Xw Xx Xy Xz XA pw px py oH PT ye XB re wz Oz m_):=rfl
def xK (k_:na→nh→Bool→α) (l0:Rows→Rows→Int→Int→Int→Int→Int→Int→Int→Int→Int→Int→Int→Int→Int→Int→Int→Int→Int→Rows→Rows→Rows→Rows→Rows→Rows→Rows→Int→Rows→α) (list_:Rows) (m:na) (domain:Int) (q:nh) (p:nx) (size cut:Int):α:=
 let z0:Bool:= !(nf cut 1 q.nI.nL)
 let z1:Int:=nM (Int.tdiv (nM ((nM ((len ((nR p).1))+cut)) - 1)) cut)
 let z2:nv×Rows×Bool:=n7 q.nI z1
 let z3:Rows:=z2.2.1
 let z4:na×Rows×Bool:=qi list_ (oE m) domain q.nI z3 ((nR p).1) cut
 let z5:Bool:= !z4.2.2
 let z6:Rows:=pN z4.2.1 size q.Next
 let z7:nv:=z2.1
 bif Eb (Eb true (sb m)) (zH q) then
  bif LV (!(Sg q)) (Eb true (zx q)) (LV (!(sY p)) (Eb true (zx q)) (LV z0 (Eb true (zx q)) (Eb true (zx q)))) then
   bif bif !(Sg q) then true else bif !(sY p) then true else bif z0 then true else !(nf size 1 128) then k_ (oE m) (oE q) false
   else bif Eb true (!(cut==0)) then
     bif bif decide (16<z1) then true else bif decide (xh q.Ring<nM (z1+1)) then true else decide (q.Ring.nL<nM ((nM ((zh q)+z1))+1)) then k_ (oE m) (oE q) false
     else bif Eb true (zH q) then
       bif Eb true (uq q.nI z1) then
        bif !z2.2.2 then k_ (oE m) (oE q) false
        else bif Eb (Eb true (sb m)) (nfD list_ (oE m) domain q.nI z3 ((nR p).1) cut) then
          bif LV z5 true (Eb true (decide (0<List.length z6))) then
           bif bif z5 then true else false then k_ (oE m) (oE q) false
           else l0 z6 z6 (len z6) q.Ring.oG q.Ring.nL q.Ring.Head q.Ring.qG q.Next (((oE q).Ring).oG) (((oE q).Ring).nL) (((oE q).Ring).Head) (((oE q).Ring).qG) (((oE q).nI).oG) (((oE q).nI).nL) (((oE q).nI).Count) ((oE q).Next) z7.oG z7.nL z7.Count z3 ((oE m).nE) (((oE q).nI).oB) ((oE q).nr) z7.oB ((oE q).nr) z4.1.nE 0 []
          else ke
         else ke
       else ke
      else ke
    else ke
  else ke
 else ke
def WH (k_:na→nh→Bool→α) (N:Nat) (list_:Rows) (m:na) (domain:Int) (q:nh) (p:nx) (size cut:Int):α:=xK ke k_ (fun qW x nX xt uX xu xv qR lN Xu Xv Xw Xx Xy Xz XA pw px py oH PT ye XB re wz Oz=>uv ke k_ N list_ domain qW x nX xt uX xu xv qR lN Xu Xv Xw Xx Xy Xz XA pw px py oH PT ye XB re wz Oz N) list_ m domain q p size cut
def nsU (r:List DC):Prop:=0≤rI r 0∧rI r 0≤140000∧0≤rI r 1∧rI r 1≤512
theorem nBq (p:nv) (k:Int): -1≤pI p k∧pI p k≤140000:=by
 unfold pI yt
 cases hp:qB p
 ·simp
 cases hb:nf k 0 (nM (p.Count - 1))
 ·simp
 have h1:nf p.oG 0 130944=true∧nf p.nL 1 512=true∧nf p.Count 0 16=true:=by
  unfold qB at hp
  revert hp
  cases nf p.oG 0 130944<;>cases nf p.nL 1 512<;>cases nf p.Count 0 16<;>simp
 have a:=nS.1 h1.1
 have b:=nS.1 h1.2.1
 have c:=nS.1 h1.2.2
 have d:=nS.1 hb
 rw[nQ (n:=p.Count - 1) (by omega) (by omega)] at d
 have e1:k*p.nL≤15*512:=Int.mul_le_mul (by omega) (by omega) (by omega) (by omega)
 have e0:0≤k*p.nL:=Int.mul_nonneg (by omega) (by omega)
 simp only[Bool.not_true,cond_false,id]
 rw[nQ (n:=k*p.nL) (by omega) (by omega),nQ (by omega) (by omega)]
 omega
theorem nyC {l:Rows} {m:na} {d a:Int} {s:Bytes} (hs:0<s.length) (h:(rp l m d a s).2=true):0≤a:=by
 unfold rp put sa at h
 have hz:((len s)==0)=false:=beq_eq_false_iff_ne.2 (by simp only[len];omega)
 by_cases ha:a<0
 ·rw[hz,decide_eq_true ha] at h
  revert h
  cases (bif !(oQ l) then true else bif !(pF m) then true else !(nf (len s) 0 4096))<;>simp
 ·omega
theorem nmh (l:Rows) (d:Int) (p:nv) (cut:Int):∀(bs:Rows) (t:Bytes) (m:na) (o:Rows),(nc7 l d p cut bs t m o).1.nE.length=m.nE.length
 | [],_,_,_=>rfl
 | b::bs,t,m,o=>by
  unfold nc7
  cases (rp l m d (pI p (rI b 0)) (t.take cut.toNat)).2
  ·rfl
  ·simp only[Bool.not_true,cond_false]
   rw[nmh l d p cut bs,T9]
theorem noM (l:Rows) (d:Int) (p:nv) (cut:Int) (Cg:1≤cut) (hc:cut≤512):∀(bs:Rows) (t:Bytes) (m:na) (o:Rows),bs.length*cut.toNat≤t.length+cut.toNat - 1→(∀r∈o,nsU r)→
  (nc7 l d p cut bs t m o).2.2=true→(nc7 l d p cut bs t m o).2.1.length=o.length+bs.length∧∀r∈(nc7 l d p cut bs t m o).2.1,nsU r
 | [],t,m,o,_,ho,_=>⟨rfl,ho⟩
 | b::bs,t,m,o,ht,ho,h=>by
  unfold nc7 at h ⊢
  cases hw:(rp l m d (pI p (rI b 0)) (t.take cut.toNat)).2
  ·rw[hw] at h;cases h
  ·rw[hw] at h
   simp only[Bool.not_true,cond_false] at h ⊢
   rw[List.length_cons,Nat.succ_mul] at ht
   have hl:0<(t.take cut.toNat).length:=by rw[List.length_take];omega
   have h0:=nyC hl hw
   have hba:=nBq p (rI b 0)
   have hpc:nsU [DC.int (pI p (rI b 0)),DC.int (len (t.take cut.toNat))]:=by
    refine⟨h0,hba.2, ?_, ?_⟩
    ·show 0≤len (t.take cut.toNat)
     simp [len]
    ·show len (t.take cut.toNat)≤512
     simp only[len,List.length_take]
     omega
   have:=noM l d p cut Cg hc bs (t.drop cut.toNat) _ (o++[[.int (pI p (rI b 0)),.int (len (t.take cut.toNat))]]) (by rw[List.length_drop];omega) (fun r hr=>by
    rcases List.mem_append.1 hr with hr | hr
    ·exact ho r hr
    ·rw[List.mem_singleton] at hr
     rw[hr]
     exact hpc) h
   refine⟨?_,this.2⟩
   rw[this.1,List.length_append,List.length_cons,List.length_cons,List.length_nil]
   omega
theorem noL {p:List DC→Bool} :∀(l:Rows) (i:Nat),(∀r∈l,p r=false)→qn (fun _ r=>p r) l i=false
 | [],_,_=>rfl
 | r::rs,i,h=>by
  simp only[qn]
  rw[h r (by simp),cond_false]
  exact noL rs (i+1) (fun x hx=>h x (by simp [hx]))
theorem nzz {n:Nat} {c:Int} {x:List DC} :∀ {l:Rows} {i:Nat},x∈Wr n c l i→∃j r,r∈l∧x=nmg n c j r
 | [],_,h=>by cases h
 | r::rs,i,h=>by
  simp only[Wr,List.mem_cons] at h
  rcases h with h | h
  ·exact⟨i,r,by simp,h⟩
  ·obtain⟨j,q,h1,h2⟩:=nzz h
   exact⟨j,q,by simp [h1],h2⟩
theorem nAR {op fl le a si c:Int} (h1:nf op 0 3=true) (h2:nf fl 0 3=true) (h3:nf le 0 65535=true) (h4:nf si 0 65535=true) (h5:nf c 0 65535=true) (h6:nf a 0 4294967295=true):
  ndh [.int op,.int fl,.int le,.int a,.int si,.int c]=false:=by
 show (!(OR (⟨op,fl,le,a,si,c⟩:qo)))=false
 unfold OR XX
 simp only[h1,h2,h3,h4,h5,h6,cond_true,id,Bool.not_true]
theorem nyB {P:Rows} {size cookie:Int} (h0:0<P.length) (h16:P.length≤16) (hp:∀r∈P,nsU r) (EZ:1≤size) (hs:size≤128) (Cg:0≤cookie) (hc:cookie≤65535):
  pN P size cookie=Qy size cookie::Wr P.length cookie P 0:=by
 unfold pN
 have e1:((len P)==0)=false:=beq_eq_false_iff_ne.2 (by simp only[len];omega)
 have e2:vi P=true:=by
  unfold vi
  rw[noL (p:=fun r=>bif decide (rI r 0<0) then true else !(nf (rI r 1) 0 4096)) P 0 (fun r hr=>by
   obtain⟨a,_,b,c⟩:=hp r hr
   rw[decide_eq_false (by omega),show nf (rI r 1) 0 4096=true from nS.2 ⟨b,by omega⟩]
   rfl)]
  exact decide_eq_true (by simp only[len];omega)
 have e3:nf size 1 128=true:=nS.2 ⟨EZ,hs⟩
 have e4:(Qy size cookie::Wr P.length cookie P 0).any ndh=false:=by
  rw[List.any_eq_false]
  intro x hx
  rw[Bool.not_eq_true]
  rcases List.mem_cons.1 hx with hx | hx
  ·rw[hx]
   exact nAR (by rfl) (by rfl) (by rfl) (nS.2 ⟨by omega,by omega⟩) (nS.2 ⟨Cg,hc⟩) (by rfl)
  ·obtain⟨j,r,hr,hx⟩:=nzz hx
   obtain⟨a,b,c,d⟩:=hp r hr
   rw[hx]
   exact nAR (by rfl) (by cases ((j:Nat):Int)==nM ((P.length:Int) - 1)<;>rfl) (nS.2 ⟨c,by omega⟩) (by rfl) (nS.2 ⟨Cg,hc⟩) (nS.2 ⟨a,by omega⟩)
 simp only[e1,e2,e3,e4,Bool.not_true,cond_false]
def spN (t:Bytes) (cut:Int):Int:=nM (Int.tdiv (nM ((nM ((len t)+cut)) - 1)) cut)
theorem nCk {t:Bytes} {c:Nat} (h1:1≤c) (h2:c≤512) (hl:t.length≤420):spN t (c:Int)=(((t.length+c - 1) / c:Nat):Int):=by
 unfold spN len
 rw[nQ (n:=(t.length:Int)+(c:Int)) (by omega) (by omega),nQ (n:=(t.length:Int)+(c:Int) - 1) (by omega) (by omega),show (t.length:Int)+(c:Int) - 1=((t.length+c - 1:Nat):Int) by omega,←Int.ofNat_tdiv]
 have:=Nat.div_le_self (t.length+c - 1) c
 generalize (t.length+c - 1) / c=y at this ⊢
 exact nQ (by omega) (by omega)
def ndi (r:List DC):List DC:=[.str (vE (qo.nd r 0))]
def nz1 (list_:Rows) (m:na) (domain:Int) (q:nh) (m2:na) (qW:Rows) (qU:nv) (buf:Rows):na×nh×Bool:=
 bif !(pK list_ m2 domain q.Ring (qW.map ndi)).2.2 then (m,q,false)
 else ((pK list_ m2 domain q.Ring (qW.map ndi)).1,⟨(pK list_ m2 domain q.Ring (qW.map ndi)).2.1,qU,q.nr++[[.int q.Next,.int (len qW),.sl buf]],Int.tmod (nM (q.Next+1)) 65536⟩,true)
def nyr (q:nh) (p:nx) (size cut:Int):Bool:=bif !(Sg q) then true else bif !(sY p) then true else bif !(nf cut 1 q.nI.nL) then true else !(nf size 1 128)
def nod (q:nh) (n:Int):Bool:=bif decide (16<n) then true else bif decide (xh q.Ring<nM (n+1)) then true else decide (q.Ring.nL<nM (nM (zh q+n)+1))
def rm (list_:Rows) (m:na) (domain:Int) (q:nh) (p:nx) (size cut:Int):Bool:=sb m && (zH q && (zx q && sm list_))
def qm (list_:Rows) (m:na) (domain:Int) (q:nh) (p:nx) (size cut:Int):na×nh×Bool:=
 bif nyr q p size cut then (m,q,false)
 else bif nod q (spN (nR p).1 cut) then (m,q,false)
 else bif !(n7 q.nI (spN (nR p).1 cut)).2.2 then (m,q,false)
 else bif !(qi list_ m domain q.nI (n7 q.nI (spN (nR p).1 cut)).2.1 (nR p).1 cut).2.2 then (m,q,false)
 else nz1 list_ m domain q (qi list_ m domain q.nI (n7 q.nI (spN (nR p).1 cut)).2.1 (nR p).1 cut).1
  (pN (qi list_ m domain q.nI (n7 q.nI (spN (nR p).1 cut)).2.1 (nR p).1 cut).2.1 size q.Next) (n7 q.nI (spN (nR p).1 cut)).1 (n7 q.nI (spN (nR p).1 cut)).2.1
theorem nz2 {list_:Rows} {m:na} {domain:Int} {q:nh} {p:nx} {size cut:Int} (h1:nyr q p size cut=false) (h2:nod q (spN (nR p).1 cut)=false) (h3:(n7 q.nI (spN (nR p).1 cut)).2.2=true):
  ∃c n:Nat,cut=(c:Int)∧1≤c∧c≤512∧spN (nR p).1 cut=(n:Int)∧1≤n∧n≤16∧n*c≤(nR p).1.length+c - 1∧(n7 q.nI (spN (nR p).1 cut)).2.1.length=n∧
   ((qi list_ m domain q.nI (n7 q.nI (spN (nR p).1 cut)).2.1 (nR p).1 cut).2.2=true→
    0<(pN (qi list_ m domain q.nI (n7 q.nI (spN (nR p).1 cut)).2.1 (nR p).1 cut).2.1 size q.Next).length∧
    (pN (qi list_ m domain q.nI (n7 q.nI (spN (nR p).1 cut)).2.1 (nR p).1 cut).2.1 size q.Next).length=n+1):=by
 unfold nyr at h1
 cases hT:Sg q
 ·rw[hT] at h1;cases h1
 cases hS:sY p
 ·rw[hT,hS] at h1;cases h1
 cases hC:nf cut 1 q.nI.nL
 ·rw[hT,hS,hC] at h1;cases h1
 cases hZ:nf size 1 128
 ·rw[hT,hS,hC,hZ] at h1;cases h1
 have c1:=nS.1 hC
 have c2:=nS.1 hZ
 have hP:qB q.nI=true∧nf q.Next 0 65535=true:=by
  unfold Sg at hT
  revert hT
  cases tx q.Ring<;>cases qB q.nI<;>cases nf q.Next 0 65535<;>simp
 have hPs:nf q.nI.nL 1 512=true:=by
  have:=hP.1
  unfold qB at this
  revert this
  cases nf q.nI.oG 0 130944<;>cases nf q.nI.nL 1 512<;>simp
 have c3:=nS.1 hPs
 have c4:=nS.1 hP.2
 have hl:=njG p
 have hg:=nwb hS
 obtain⟨c,rfl⟩:∃c:Nat,cut=(c:Int):=⟨cut.toNat,by omega⟩
 have hn:=nCk (t:=(nR p).1) (c:=c) (by omega) (by omega) hl
 have hd:=Nat.div_mul_le_self ((nR p).1.length+c - 1) c
 have Kf:1≤((nR p).1.length+c - 1) / c:=(Nat.le_div_iff_mul_le (by omega)).2 (by omega)
 generalize ((nR p).1.length+c - 1) / c=n at hn hd Kf
 have nC5:n≤16:=by
  unfold nod at h2
  by_cases h:16<spN (nR p).1 (c:Int)
  ·rw[decide_eq_true h] at h2;cases h2
  ·omega
 refine⟨c,n,rfl,by omega,by omega,hn,Kf,nC5,hd, ?_⟩
 rw[hn] at h3 ⊢
 have bW:(n:Int)≤len q.nI.oB:=by
  unfold n7 at h3
  rw[hP.1] at h3
  cases hb:nf (n:Int) 0 (len q.nI.oB)
  ·rw[hb] at h3;cases h3
  ·exact ((nS (n:=(n:Int)) (a:=0) (b:=len q.nI.oB)).1 hb).2
 have hlen:(n7 q.nI (n:Int)).2.1.length=n:=by
  unfold n7
  rw[hP.1,show nf (n:Int) 0 (len q.nI.oB)=true from (nS (n:=(n:Int)) (a:=0) (b:=len q.nI.oB)).2 ⟨by omega,bW⟩]
  simp only[len] at bW
  simp only[Bool.not_true,cond_false,ym,List.drop_zero,List.length_take,Int.toNat_natCast]
  omega
 refine⟨hlen,fun hf=> ?_⟩
 have hp:=noM list_ domain q.nI (c:Int) (by omega) (by omega) (n7 q.nI (n:Int)).2.1 (nR p).1 m [] (by rw[hlen,Int.toNat_natCast];exact hd) (fun r hr=>by cases hr) hf
 have hp1:(qi list_ m domain q.nI (n7 q.nI (n:Int)).2.1 (nR p).1 (c:Int)).2.1.length=n:=by
  have:=hp.1
  rw[hlen,List.length_nil,Nat.zero_add] at this
  exact this
 have hD:=nyB (P:=(qi list_ m domain q.nI (n7 q.nI (n:Int)).2.1 (nR p).1 (c:Int)).2.1) (size:=size) (cookie:=q.Next) (by omega) (by omega) hp.2 (by omega) (by omega) (by omega) (by omega)
 rw[hD,List.length_cons,ntc,hp1]
 omega
theorem nj0 (k_:na→nh→Bool→α) (list_:Rows) (m:na) (domain:Int) (q:nh) (p:nx) (size cut:Int) (aJ:rm list_ m domain q p size cut=true):∃N,WH ke k_ N list_ m domain q p size cut=k_ (qm list_ m domain q p size cut).1 (qm list_ m domain q p size cut).2.1 (qm list_ m domain q p size cut).2.2:=by
 have HA:=aJ
 simp only[rm,Bool.and_eq_true] at HA
 obtain⟨s0,s1,s2,s3⟩:=HA
 have s1':=s1
 simp only[zH,w4,Bool.and_eq_true] at s1'
 have w1:=sd s1'.2.1
 have hm:=sd (show sm m.nE=true from s0)
 refine⟨40, ?_⟩
 unfold WH xK qm
 dsimp only
 refine pM (by rw[s0,s1];rfl) ?_
 refine pM (by simp only[s2,ng,zG]) ?_
 refine pQ (K:=fun z:na×nh×Bool=>k_ z.1 z.2.1 z.2.2) (fun _=>rfl) (fun h1=> ?_)
 have Iw:1≤cut:=by
  revert h1
  cases hC:nf cut 1 q.nI.nL
  ·cases Sg q<;>cases sY p<;>simp
  ·intro _
   exact (nS.1 hC).1
 have hz:(!(cut==0))=true:=by rw[beq_eq_false_iff_ne.2 (by omega)];rfl
 refine pM (Ue hz) ?_
 refine pQ (K:=fun z:na×nh×Bool=>k_ z.1 z.2.1 z.2.2) (fun _=>rfl) (fun h2=> ?_)
 refine pM (by rw[s1];rfl) ?_
 refine pM (by rw[show uq q.nI (nM (Int.tdiv (nM ((nM ((len ((nR p).1))+cut)) - 1)) cut))=true from s1'.1];rfl) ?_
 refine pQ (K:=fun z:na×nh×Bool=>k_ z.1 z.2.1 z.2.2) (fun _=>rfl) (fun h3=> ?_)
 have h1:nyr q p size cut=false:=h1
 have h2:nod q (spN (nR p).1 cut)=false:=h2
 have h3:(n7 q.nI (spN (nR p).1 cut)).2.2=true:=nBW h3
 obtain⟨c,n,f1,f2,f3,f4,f5,f6,f7,f8,f9⟩:=nz2 (list_:=list_) (m:=m) (domain:=domain) h1 h2 h3
 have JI:nfD list_ (oE m) domain q.nI (n7 q.nI (spN (nR p).1 cut)).2.1 (nR p).1 cut=true:=by
  simp only[nfD,oE,s3,show sm m.nE=true from s0,Bool.and_eq_true,decide_eq_true_eq,true_and]
  omega
 refine pM (by rw[s0];rw[show (n7 q.nI (nM (Int.tdiv (nM ((nM ((len ((nR p).1))+cut)) - 1)) cut))).2.1=(n7 q.nI (spN (nR p).1 cut)).2.1 from rfl,JI];rfl) ?_
 have KV:=nmh list_ domain q.nI cut (n7 q.nI (spN (nR p).1 cut)).2.1 (nR p).1 m []
 refine pM (Z0 (fun _=>rfl) (fun h=> ?_)) ?_
 ·exact Ue (decide_eq_true (f9 (nBW h)).1)
 rw[show ∀b:Bool,(bif b then true else false)=b from fun b=>by cases b<;>rfl]
 refine pQ (K:=fun z:na×nh×Bool=>k_ z.1 z.2.1 z.2.2) (fun _=>rfl) (fun h4=> ?_)
 have f9:=f9 (nBW h4)
 have key:∀(D:Rows) (m2:na) (qU:nv) (buf:Rows),D.length≤17→m2.nE.length=m.nE.length→uv ke k_ 40 list_ domain D D (len D) q.Ring.oG q.Ring.nL q.Ring.Head q.Ring.qG q.Next q.Ring.oG q.Ring.nL q.Ring.Head q.Ring.qG q.nI.oG q.nI.nL q.nI.Count q.Next qU.oG qU.nL qU.Count buf m.nE q.nI.oB q.nr qU.oB q.nr m2.nE 40 0 []=(fun z:na×nh×Bool=>k_ z.1 z.2.1 z.2.2) (nz1 list_ m domain q m2 D qU buf):=by
  intro D m2 qU buf hD Di
  have k1:=VI D (fun n i o=>uv ke k_ 40 list_ domain D D (len D) q.Ring.oG q.Ring.nL q.Ring.Head q.Ring.qG q.Next q.Ring.oG q.Ring.nL q.Ring.Head q.Ring.qG q.nI.oG q.nI.nL q.nI.Count q.Next qU.oG qU.nL qU.Count buf m.nE q.nI.oB q.nr qU.oB q.nr m2.nE n i o) (fun _ r c o=>c (o++[ndi r])) (fun o=>bif !(pK list_ m2 domain q.Ring o).2.2 then k_ m q false
    else k_ (pK list_ m2 domain q.Ring o).1 (⟨(pK list_ m2 domain q.Ring o).2.1,qU,q.nr++[[.int q.Next,.int (len D),.sl buf]],Int.tmod (nM (q.Next+1)) 65536⟩:nh) true) 0 (fun i r c d s h=>h _ (by simp)) ?_ ?_ D.length 0 [] 40 (by omega) (by omega) rfl
  ·refine k1.trans ?_
   rw[List.drop_zero,nyJ,List.nil_append]
   exact J5 (K:=fun z:na×nh×Bool=>k_ z.1 z.2.1 z.2.2) rfl rfl
  ·intro n i o hi ho
   rw[RX]
   have eF:∀x:List DC,oY 16 o [x]=true:=fun x=>ry (by simp only[List.length_cons,List.length_nil];omega) (by omega)
   simp only[wO,oL hi,nT hi,oa hi (show D.length≤9223372036854775807 by omega),Int.toNat_natCast,eF,ng,cond_true]
   rfl
  ·intro n o ho
   rw[RX]
   have A1:sr list_ (⟨m2.nE⟩:na) domain (⟨q.Ring.oG,q.Ring.nL,q.Ring.Head,q.Ring.qG⟩:nB) o=true:=decide_eq_true (by show m2.nE.length≤16777216;omega)
   have eF:∀x:List DC,oY 40 q.nr [x]=true:=fun x=>ry (by simp only[List.length_cons,List.length_nil];omega) (by omega)
   simp only[wO,nN,A1,eF,ng,cond_true,cond_false]
 exact key _ (qi list_ m domain q.nI (n7 q.nI (spN (nR p).1 cut)).2.1 (nR p).1 cut).1 (n7 q.nI (spN (nR p).1 cut)).1 (n7 q.nI (spN (nR p).1 cut)).2.1 (Nat.le_trans (Nat.le_of_eq f9.2) (by omega)) KV
def uJ (k_:na→nh→Bool→α) (l1:Rows→Rows→Int→Rows→α) (list_:Rows) (domain size cut:Int) (t:Bytes) (n:Int) (qH:Rows) (xt uX xu xv vc vd ve:Int) (vf sX:Rows) (qR qU pV pW:Int) (taken pX:Rows) (oD:Int→Rows→Rows→α) (k:Int) (pieces nU:Rows):α:=
 let z0:Int:=vw (len t) (nM ((nM (k+1))*cut))
 let z1:Int:=pI (⟨vc,vd,ve,vf⟩:nv) (rI (nth taken (Int.toNat k)) 0)
 let z2:Bytes:=nB1 t (nM (k*cut)) z0
 let z3:na×Bool:=rp list_ (⟨nU⟩:na) domain z1 z2
 let z4:nh:=(⟨(⟨xt,uX,xu,xv⟩:nB),(⟨vc,vd,ve,vf⟩:nv),sX,qR⟩:nh)
 bif decide (k<n) then
  bif Eb true (nCN t (nM (k*cut)) z0) then
   bif Eb (Eb true (idx k taken)) (inl (Int.toNat k) taken) then
    bif Eb true (sn list_ (⟨nU⟩:na) domain z1 z2) then
     bif !z3.2 then
      bif Eb (Eb true (sb (⟨qH⟩:na))) (zH z4) then
       k_ (oE (⟨qH⟩:na)) (oE z4) false
      else ke
     else bif Eb true (oY 16 pieces ([[.int z1,.int (len z2)]])) then
       oD (nM (k+1)) (pieces++([[.int z1,.int (len z2)]])) z3.1.nE
      else ke
    else ke
   else ke
  else ke
 else l1 (pN pieces size qR) nU 0 []
def uK (k_:na→nh→Bool→α) (list_:Rows) (domain n:Int) (qH:Rows) (xt uX xu xv vc vd ve:Int) (vf sX:Rows) (qR qU pV pW:Int) (taken qW pX nU:Rows) (ih1:Int→Rows→α) (qE:Int) (entries:Rows):α:=
 let z0:na×nB×Bool:=pK list_ (⟨nU⟩:na) domain (⟨xt,uX,xu,xv⟩:nB) entries
 let z1:nh:=(⟨(⟨xt,uX,xu,xv⟩:nB),(⟨vc,vd,ve,vf⟩:nv),sX,qR⟩:nh)
 let z2:Bool:=zH z1
 let z3:nh:=oE z1
 let z4:Rows:=z3.nr
 bif decide (qE<len qW) then
  bif Eb (Eb (Eb true (idx qE qW)) (inl (Int.toNat qE) qW)) (oY 16 entries ([[.str (vE (qo.nd (nth qW (Int.toNat qE)) 0))]])) then
   ih1 (nM (qE+1)) (entries++([[.str (vE (qo.nd (nth qW (Int.toNat qE)) 0))]]))
  else ke
 else bif Eb true (sr list_ (⟨nU⟩:na) domain (⟨xt,uX,xu,xv⟩:nB) entries) then
   bif bif !z0.2.2 then true else (len qW)==0 then
    bif Eb (Eb true (sb (⟨qH⟩:na))) z2 then
     k_ (oE (⟨qH⟩:na)) z3 false
    else ke
   else bif Eb true z2 then
     bif Eb true (oY 40 z4 ([[.int qR,.int (nM (n+1)),.sl taken]])) then
      k_ z0.1 (⟨z0.2.1,(⟨qU,pV,pW,pX⟩:nv),z4++([[.int qR,.int (nM (n+1)),.sl taken]]),Int.tmod (nM (qR+1)) 65536⟩:nh) true
     else ke
    else ke
  else ke
def rP (k_:na→nh→Bool→α) (N:Nat) (list_:Rows) (domain n:Int) (qH:Rows) (xt uX xu xv vc vd ve:Int) (vf sX:Rows) (qR qU pV pW:Int) (taken qW pX nU:Rows) (m_:Nat):Int→Rows→α:=
 Nat.rec (motive:=fun _=>Int→Rows→α) (fun _ _=>ke) (fun _ ih1=>uK ke k_ list_ domain n qH xt uX xu xv vc vd ve vf sX qR qU pV pW taken qW pX nU ih1) m_
theorem Sb (k_:na→nh→Bool→α) (N:Nat) (list_:Rows) (domain n:Int) (qH:Rows) (xt uX xu xv vc vd ve:Int) (vf sX:Rows) (qR qU pV pW:Int) (taken qW pX nU:Rows) (m_:Nat):rP ke k_ N list_ domain n qH xt uX xu xv vc vd ve vf sX qR qU pV pW taken qW pX nU (m_+1)=uK ke k_ list_ domain n qH xt uX xu xv vc vd ve vf sX qR qU pV pW taken qW pX nU (rP ke k_ N list_ domain n qH xt uX xu xv vc vd ve vf sX qR qU pV pW taken qW pX nU m_):=rfl
def tn (k_:na→nh→Bool→α) (N:Nat) (list_:Rows) (domain size cut:Int) (t:Bytes) (n:Int) (qH:Rows) (xt uX xu xv vc vd ve:Int) (vf sX:Rows) (qR qU pV pW:Int) (taken pX:Rows) (m_:Nat):Int→Rows→Rows→α:=
 Nat.rec (motive:=fun _=>Int→Rows→Rows→α) (fun _ _ _=>ke) (fun _ oD=>uJ ke k_ (fun qW nU=>rP ke k_ N list_ domain n qH xt uX xu xv vc vd ve vf sX qR qU pV pW taken qW pX nU N) list_ domain size cut t n qH xt uX xu xv vc vd ve vf sX qR qU pV pW taken pX oD) m_
theorem Sa (k_:na→nh→Bool→α) (N:Nat) (list_:Rows) (domain size cut:Int) (t:Bytes) (n:Int) (qH:Rows) (xt uX xu xv vc vd ve:Int) (vf sX:Rows) (qR qU pV pW:Int) (taken pX:Rows) (m_:Nat) (k:Int) (pieces nU:Rows):tn ke k_ N list_ domain size cut t n qH xt uX xu xv vc vd ve vf sX qR qU pV pW taken pX (m_+1) k pieces nU=uJ ke k_ (fun qW nU=>rP ke k_ N list_ domain n qH xt uX xu xv vc vd ve vf sX qR qU pV pW taken qW pX nU N) list_ domain size cut t n qH xt uX xu xv vc vd ve vf sX qR qU pV pW taken pX (tn ke k_ N list_ domain size cut t n qH xt uX xu xv vc vd ve vf sX qR qU pV pW taken pX m_) k pieces nU:=rfl
def yi (k_:na→nh→Bool→α) (l0:Bytes→Int→Rows→Int→Int→Int→Int→Int→Int→Int→Rows→Rows→Int→Int→Int→Int→Rows→Rows→Int→Rows→Rows→α) (list_:Rows) (m:na) (domain:Int) (q:nh) (p:nx) (size cut:Int):α:=
 let z0:Bool:= !(nf cut 1 q.nI.nL)
 let z1:Bool:=Eb (Eb true (sb m)) (zH q)
 let z2:Int:=nM (Int.tdiv (nM ((nM ((len ((nR p).1))+cut)) - 1)) cut)
 let z3:nv×Rows×Bool:=n7 q.nI z2
 let z4:nv:=z3.1
 bif LV (!(Sg q)) (Eb true (zx q)) (LV (!((nR p).2)) (Eb true (zx q)) (LV z0 (Eb true (zx q)) (Eb true (zx q)))) then
  bif bif !(Sg q) then true else bif !((nR p).2) then true else bif z0 then true else !(nf size 1 128) then
   bif z1 then
    k_ (oE m) (oE q) false
   else ke
  else bif Eb true (!(cut==0)) then
    bif Eb true (uq q.nI z2) then
     bif bif !z3.2.2 then true else bif decide (16<z2) then true else bif decide (xh q.Ring<nM (z2+1)) then true else decide (q.Ring.nL<nM ((nM ((zh q)+z2))+1)) then
      bif z1 then
       k_ (oE m) (oE q) false
      else ke
     else bif Eb true (sb m) then
       l0 ((nR p).1) z2 m.nE q.Ring.oG q.Ring.nL q.Ring.Head q.Ring.qG q.nI.oG q.nI.nL q.nI.Count q.nI.oB q.nr q.Next z4.oG z4.nL z4.Count z3.2.1 z4.oB 0 [] ((oE m).nE)
      else ke
    else ke
   else ke
 else ke
def yh (k_:na→nh→Bool→α) (N:Nat) (list_:Rows) (m:na) (domain:Int) (q:nh) (p:nx) (size cut:Int):α:=yi ke k_ (fun t n qH xt uX xu xv vc vd ve vf sX qR qU pV pW taken pX=>tn ke k_ N list_ domain size cut t n qH xt uX xu xv vc vd ve vf sX qR qU pV pW taken pX N) list_ m domain q p size cut
theorem nlW (k_:na→nh→Bool→α) (list_:Rows) (m:na) (domain:Int) (q:nh) (p:nx) (size cut:Int) (aJ:rm list_ m domain q p size cut=true):∃N,yh ke k_ N list_ m domain q p size cut=k_ (qm list_ m domain q p size cut).1 (qm list_ m domain q p size cut).2.1 (qm list_ m domain q p size cut).2.2:=by
 have HA:=aJ
 simp only[rm,Bool.and_eq_true] at HA
 obtain⟨s0,s1,s2,s3⟩:=HA
 have s1':=s1
 simp only[zH,w4,Bool.and_eq_true] at s1'
 have w1:=sd s1'.2.1
 have hm:=sd (show sm m.nE=true from s0)
 refine⟨40, ?_⟩
 unfold yh yi qm
 dsimp only
 have mW:Eb (Eb true (sb m)) (zH q)=true:=by rw[s0,s1];rfl
 refine pM (by simp only[s2,ng,zG]) ?_
 rw[nyE,mW]
 simp only[cond_true]
 refine pQ (K:=fun z:na×nh×Bool=>k_ z.1 z.2.1 z.2.2) (fun _=>rfl) (fun h1=> ?_)
 have Iw:1≤cut:=by
  revert h1
  cases hC:nf cut 1 q.nI.nL
  ·cases Sg q<;>cases sY p<;>simp
  ·intro _
   exact (nS.1 hC).1
 have hz:(!(cut==0))=true:=by rw[beq_eq_false_iff_ne.2 (by omega)];rfl
 refine pM (Ue hz) ?_
 refine pM (Ue (show uq q.nI (nM (Int.tdiv (nM ((nM ((len ((nR p).1))+cut)) - 1)) cut))=true from s1'.1)) ?_
 have hre:∀(T F:Bool) (Y:α) (B:na×nh×Bool),(F=false→T=true→Y=(fun z:na×nh×Bool=>k_ z.1 z.2.1 z.2.2) B)→(bif bif !T then true else F then k_ (oE m) (oE q) false else Y)=(fun z:na×nh×Bool=>k_ z.1 z.2.1 z.2.2) (bif F then (m,q,false) else bif !T then (m,q,false) else B):=by
  intro T F Y B h
  cases T<;>cases F
  ·rfl
  ·rfl
  ·exact h rfl rfl
  ·rfl
 refine hre _ _ _ _ (fun h2 h3=> ?_)
 have h1:nyr q p size cut=false:=h1
 have h2:nod q (spN (nR p).1 cut)=false:=h2
 have h3:(n7 q.nI (spN (nR p).1 cut)).2.2=true:=h3
 obtain⟨c,n,f1,f2,f3,f4,f5,f6,f7,f8,f9⟩:=nz2 (list_:=list_) (m:=m) (domain:=domain) h1 h2 h3
 refine pM (Ue s0) ?_
 have f4':nM (Int.tdiv (nM ((nM ((len ((nR p).1))+cut)) - 1)) cut)=(n:Int):=f4
 rw[f4] at f8 f9
 rw[f4,f4']
 have nDa:∀P:nv,(⟨P.oG,P.nL,P.Count,P.oB⟩:nv)=P:=fun _=>rfl
 generalize (n7 q.nI (n:Int)).2.1=B at f8 f9 ⊢
 generalize (n7 q.nI (n:Int)).1=qU
 have htl:=njG p
 generalize (nR p).1=t at f7 f9 htl ⊢
 subst f1
 have ny2:∀(D:Rows) (m2:na),D.length=n+1→m2.nE.length=m.nE.length→rP ke k_ 40 list_ domain (n:Int) m.nE q.Ring.oG q.Ring.nL q.Ring.Head q.Ring.qG q.nI.oG q.nI.nL q.nI.Count q.nI.oB q.nr q.Next qU.oG qU.nL qU.Count B D qU.oB m2.nE 40 0 []=(fun z:na×nh×Bool=>k_ z.1 z.2.1 z.2.2) (nz1 list_ m domain q m2 D qU B):=by
  intro D m2 hD Di
  have k1:=VI D (fun j i o=>rP ke k_ 40 list_ domain (n:Int) m.nE q.Ring.oG q.Ring.nL q.Ring.Head q.Ring.qG q.nI.oG q.nI.nL q.nI.Count q.nI.oB q.nr q.Next qU.oG qU.nL qU.Count B D qU.oB m2.nE j i o) (fun _ r c o=>c (o++[ndi r])) (fun o=>bif !(pK list_ m2 domain q.Ring o).2.2 then k_ m q false
    else k_ (pK list_ m2 domain q.Ring o).1 (⟨(pK list_ m2 domain q.Ring o).2.1,qU,q.nr++[[.int q.Next,.int (len D),.sl B]],Int.tmod (nM (q.Next+1)) 65536⟩:nh) true) 0 (fun i r c d s h=>h _ (by simp)) ?_ ?_ D.length 0 [] 40 (by omega) (by omega) rfl
  ·refine k1.trans ?_
   rw[List.drop_zero,nyJ,List.nil_append]
   exact J5 (K:=fun z:na×nh×Bool=>k_ z.1 z.2.1 z.2.2) rfl rfl
  ·intro n i o hi ho
   rw[Sb]
   have eF:∀x:List DC,oY 16 o [x]=true:=fun x=>ry (by simp only[List.length_cons,List.length_nil];omega) (by omega)
   simp only[uK,oL hi,nT hi,sZ hi,oa hi (show D.length≤9223372036854775807 by omega),Int.toNat_natCast,eF,ng,cond_true]
   rfl
  ·intro j o ho
   rw[Sb]
   have A1:sr list_ (⟨m2.nE⟩:na) domain (⟨q.Ring.oG,q.Ring.nL,q.Ring.Head,q.Ring.qG⟩:nB) o=true:=decide_eq_true (by show m2.nE.length≤16777216;omega)
   have eF:∀x:List DC,oY 40 q.nr [x]=true:=fun x=>ry (by simp only[List.length_cons,List.length_nil];omega) (by omega)
   have KD:sb (⟨m.nE⟩:na)=true:=s0
   have hte:zH (⟨(⟨q.Ring.oG,q.Ring.nL,q.Ring.Head,q.Ring.qG⟩:nB),(⟨q.nI.oG,q.nI.nL,q.nI.Count,q.nI.oB⟩:nv),q.nr,q.Next⟩:nh)=true:=s1
   have hdz:((len D)==0)=false:=beq_eq_false_iff_ne.2 (by simp only[len];omega)
   have hwn:nM ((n:Int)+1)=len D:=by rw[nQ (by omega) (by omega)];simp only[len];omega
   have hor:∀b:Bool,(bif !b then true else false)= !b:=fun b=>by cases b<;>rfl
   simp only[uK,nN,A1,KD,hte,hdz,hor,hwn,oE,eF,ng,cond_true,cond_false]
 have nC9:∀(r i:Nat) (o:Rows) (m':na) (N':Nat),i+r=n→r<N'→m'.nE.length=m.nE.length→o.length≤i→
   ((nc7 list_ domain q.nI (c:Int) (B.drop i) (t.drop (i*c)) m' o).2.2=true→(pN (nc7 list_ domain q.nI (c:Int) (B.drop i) (t.drop (i*c)) m' o).2.1 size q.Next).length=n+1)→
   tn ke k_ 40 list_ domain size (c:Int) t (n:Int) m.nE q.Ring.oG q.Ring.nL q.Ring.Head q.Ring.qG q.nI.oG q.nI.nL q.nI.Count q.nI.oB q.nr q.Next qU.oG qU.nL qU.Count B qU.oB N' (i:Int) o m'.nE=
    (fun z:na×nh×Bool=>k_ z.1 z.2.1 z.2.2) (bif !(nc7 list_ domain q.nI (c:Int) (B.drop i) (t.drop (i*c)) m' o).2.2 then (m,q,false) else nz1 list_ m domain q (nc7 list_ domain q.nI (c:Int) (B.drop i) (t.drop (i*c)) m' o).1 (pN (nc7 list_ domain q.nI (c:Int) (B.drop i) (t.drop (i*c)) m' o).2.1 size q.Next) qU B):=by
  intro r
  induction r with
  | zero=>
   intro i o m' N' g1 g2 g3 g4 g5
   obtain⟨N',rfl⟩:∃q,N'=q+1:=⟨N' - 1,by omega⟩
   have hi:i=n:=by omega
   subst hi
   have hf:decide ((i:Int)<(i:Int))=false:=decide_eq_false (by omega)
   rw[List.drop_of_length_le (by omega)] at g5 ⊢
   simp only[nc7] at g5 ⊢
   rw[Sa]
   simp only[uJ,hf,cond_false,Bool.not_true]
   exact ny2 _ m' (g5 trivial) g3
  | succ r ih=>
   intro i o m' N' g1 g2 g3 g4 g5
   obtain⟨N',rfl⟩:∃q,N'=q+1:=⟨N' - 1,by omega⟩
   have hi:i<n:=by omega
   have EJ:i<B.length:=by omega
   have hx:(i+1)*c≤n*c:=Nat.mul_le_mul_right c hi
   rw[Nat.succ_mul] at hx
   have ht:decide ((i:Int)<(n:Int))=true:=decide_eq_true (by omega)
   have e0:B[i]=nth B i:=by simp [nth,EJ]
   rw[List.drop_eq_getElem_cons EJ,e0] at g5 ⊢
   have hX:(i:Int)*(c:Int)=((i*c:Nat):Int):=(Int.natCast_mul i c).symm
   have hY:((i:Int)+1)*(c:Int)=((i*c+c:Nat):Int):=by rw[←Nat.succ_mul];exact (Int.natCast_mul (i+1) c).symm
   have hS:(i+1)*c=i*c+c:=Nat.succ_mul i c
   have ih:=ih (i+1)
   rw[hS] at ih
   generalize i*c=X at g5 hx hX hY ih ⊢
   have w1:nM ((i:Int)+1)=(i:Int)+1:=nQ (by omega) (by omega)
   have w2:nM ((i:Int)*(c:Int))=(X:Int):=by rw[hX];exact nQ (by omega) (by omega)
   have w3:nM (((i:Int)+1)*(c:Int))=((X+c:Nat):Int):=by rw[hY];exact nQ (by omega) (by omega)
   have x1:nB1 t (X:Int) (vw (len t) ((X+c:Nat):Int))=(t.drop X).take c:=by
    simp only[nB1,Int.toNat_natCast]
    unfold vw
    by_cases cn:((X+c:Nat):Int)<len t
    ·rw[if_pos cn,Int.toNat_natCast,List.drop_take,Nat.add_sub_cancel_left]
    ·rw[if_neg cn]
     simp only[len] at cn ⊢
     rw[Int.toNat_natCast,List.take_length,List.take_of_length_le (by rw[List.length_drop];omega)]
   have x2:nCN t (X:Int) (vw (len t) ((X+c:Nat):Int))=true:=by
    simp only[nCN,Bool.and_eq_true,decide_eq_true_eq]
    unfold vw
    by_cases cn:((X+c:Nat):Int)<len t
    ·rw[if_pos cn];simp only[len] at cn;omega
    ·rw[if_neg cn];simp only[len] at cn ⊢;omega
   have x5:∀a b,sn list_ (⟨m'.nE⟩:na) domain a b=true:=fun a b=>by
    simp only[sn,s3,Bool.true_and]
    exact decide_eq_true (by show m'.nE.length≤16777216;omega)
   have x6:∀x:List DC,oY 16 o [x]=true:=fun x=>ry (by simp only[List.length_cons,List.length_nil];omega) (by omega)
   have KD:sb (⟨m.nE⟩:na)=true:=s0
   have hte:zH (⟨(⟨q.Ring.oG,q.Ring.nL,q.Ring.Head,q.Ring.qG⟩:nB),(⟨q.nI.oG,q.nI.nL,q.nI.Count,q.nI.oB⟩:nv),q.nr,q.Next⟩:nh)=true:=s1
   simp only[nc7,Int.toNat_natCast,List.drop_drop] at g5 ⊢
   rw[Sa]
   simp only[uJ,ht,w1,w2,w3,x1,x2,x5,x6,KD,hte,nT EJ,sZ EJ,Int.toNat_natCast,ng,cond_true]
   cases hw:(rp list_ m' domain (pI q.nI (rI (nth B i) 0)) ((t.drop X).take c)).2
   ·rfl
   ·rw[hw] at g5
    simp only[Bool.not_true,cond_false] at g5 ⊢
    exact ih _ _ N' (by omega) (by omega) (by rw[T9];exact g3) (by simp only[List.length_append,List.length_cons,List.length_nil];omega) g5
 have kz:=nC9 n 0 [] m 40 (by omega) (by omega) rfl (Nat.le_refl _)
 rw[Nat.zero_mul,List.drop_zero,List.drop_zero] at kz
 exact kz (fun h=>(f9 h).2)
def nbe (k_:ny→Bool→α) (h:ny) (p:nx) (size cut:Int):α:=
 let z0:na×nh×Bool:=qm h.Maps h.ov 0 h.Tx p size cut
 bif Eb true (t6 h) then
  bif Eb true (nas h) then
   bif !(nah h) then k_ (oE h) false
   else bif Eb true (rm h.Maps h.ov 0 h.Tx p size cut) then
     k_ (⟨z0.1,(oE h).Maps,z0.2.1,(oE h).Rx,(oE h).ot,(oE h).og,(oE h).pd,(oE h).Filter,(oE h).nz,(oE h).pG,(oE h).sj,(oE h).wE,(oE h).oX,(oE h).pC,(oE h).Counters⟩:ny) z0.2.2
    else ke
  else ke
 else ke
def yo (h:ny) (p:nx) (size cut:Int):Bool:=t6 h && nas h
def vh (h:ny) (p:nx) (size cut:Int):ny×Bool:=bif !(nah h) then (h,false)
 else ({h with ov:=(qm h.Maps h.ov 0 h.Tx p size cut).1,Tx:=(qm h.Maps h.ov 0 h.Tx p size cut).2.1},(qm h.Maps h.ov 0 h.Tx p size cut).2.2)
theorem npq (k_:ny→Bool→α) (h:ny) (p:nx) (size cut:Int) (aJ:yo h p size cut=true):nbe ke k_ h p size cut=k_ (vh h p size cut).1 (vh h p size cut).2:=by
 have HA:(t6 h && nas h)=true:=aJ
 simp only[Bool.and_eq_true] at HA
 obtain⟨s,b⟩:=HA
 have s':=s
 simp only[t6,Bool.and_eq_true] at s'
 obtain⟨t0,t1,t2,t3,_⟩:=s'
 have hs:rm h.Maps h.ov 0 h.Tx p size cut=true:=by
  simp only[rm,zH,Bool.and_eq_true]
  exact⟨t0,⟨t2,t3⟩,b,t1⟩
 unfold nbe vh
 dsimp only
 refine pM (Ue s) ?_
 refine pM (Ue b) ?_
 refine pQ (K:=fun z:ny×Bool=>k_ z.1 z.2) (fun _=>rfl) (fun _=> ?_)
 refine pM (Ue hs) rfl
def ncA (k_:ny→Bool→α) (h:ny) (p:nx) (size cut:Int):α:=
 let z0:na×nh×Bool:=qm h.Maps h.ov 0 h.Tx p size cut
 bif Eb true (t6 h) then
  bif Eb true (nas h) then
   bif !(nah h) then k_ (oE h) false
   else bif Eb true (rm h.Maps h.ov 0 h.Tx p size cut) then
     k_ (⟨z0.1,(oE h).Maps,z0.2.1,(oE h).Rx,(oE h).ot,(oE h).og,(oE h).pd,(oE h).Filter,(oE h).nz,(oE h).pG,(oE h).sj,(oE h).wE,(oE h).oX,(oE h).pC,(oE h).Counters⟩:ny) z0.2.2
    else ke
  else ke
 else ke
theorem nr5 (k_:ny→Bool→α) (h:ny) (p:nx) (size cut:Int) (aJ:yo h p size cut=true):ncA ke k_ h p size cut=k_ (vh h p size cut).1 (vh h p size cut).2:=by
 have HA:(t6 h && nas h)=true:=aJ
 simp only[Bool.and_eq_true] at HA
 obtain⟨s,b⟩:=HA
 have s':=s
 simp only[t6,Bool.and_eq_true] at s'
 obtain⟨t0,t1,t2,t3,_⟩:=s'
 have hs:rm h.Maps h.ov 0 h.Tx p size cut=true:=by
  simp only[rm,zH,Bool.and_eq_true]
  exact⟨t0,⟨t2,t3⟩,b,t1⟩
 unfold ncA vh
 dsimp only
 refine pM (Ue s) ?_
 refine pM (Ue b) ?_
 refine pQ (K:=fun z:ny×Bool=>k_ z.1 z.2) (fun _=>rfl) (fun _=> ?_)
 refine pM (Ue hs) rfl
theorem no7 (l:Rows) (m:na) (d:Int) (r:nB) (e:Rows):(pK l m d r e).1.nE.length=m.nE.length:=by
 have key:∀(e:Rows) (s:na×nB),s.1.nE.length=m.nE.length→(Qj (rpP l d) (rpF l d) (m,r,false) (fun s=>(s.1,s.2,true)) e s).1.nE.length=m.nE.length:=by
  intro e
  induction e with
  | nil=>intro s hs;exact hs
  | cons x xs ih=>
   intro s hs
   simp only[Qj]
   cases rpP l d x s
   ·exact ih _ (by show (tr l s.1 d s.2 (rS x 0)).1.nE.length=_;rw[nal];exact hs)
   ·rfl
 exact key e (m,r) rfl
theorem ns5 {p:nv} {n:Int} (h:sm p.oB=true):sm (n7 p n).1.oB=true∧sm (n7 p n).2.1=true:=by
 have hl:=sd h
 unfold n7
 cases (bif !(qB p) then true else !(nf n 0 (len p.oB)))
 ·refine⟨decide_eq_true ?_,decide_eq_true ?_⟩
  ·show (zw p.oB n).length≤16777216
   simp only[zw,List.length_drop,List.length_take];omega
  ·show (ym p.oB n).length≤16777216
   simp only[ym,List.length_drop,List.length_take];omega
 ·exact⟨h,rfl⟩
theorem nwa {l:Rows} {m:na} {d:Int} {q:nh} {p:nx} {size cut:Int} (h0:sm m.nE=true) (h1:zH q=true) (h2:q.nr.length≤1048576):
  sm (qm l m d q p size cut).1.nE=true∧zH (qm l m d q p size cut).2.1=true:=by
 have hm:=sd h0
 unfold qm
 cases nyr q p size cut
 case true=>exact⟨h0,h1⟩
 cases nod q (spN (nR p).1 cut)
 case true=>exact⟨h0,h1⟩
 have ht:=ns5 (n:=spN (nR p).1 cut) (show sm q.nI.oB=true by simp only[zH,Bool.and_eq_true] at h1;exact h1.1)
 generalize n7 q.nI (spN (nR p).1 cut)=T at ht ⊢
 cases T.2.2
 case false=>exact⟨h0,h1⟩
 have hp:=nmh l d q.nI cut T.2.1 (nR p).1 m []
 cases (qi l m d q.nI T.2.1 (nR p).1 cut).2.2
 case false=>exact⟨h0,h1⟩
 have hp:(qi l m d q.nI T.2.1 (nR p).1 cut).1.nE.length=m.nE.length:=hp
 simp only[Bool.not_true,cond_false]
 generalize qi l m d q.nI T.2.1 (nR p).1 cut=F at hp ⊢
 generalize pN F.2.1 size q.Next=D
 unfold nz1
 have hr:=no7 l F.1 d q.Ring (D.map ndi)
 cases (pK l F.1 d q.Ring (D.map ndi)).2.2
 case false=>exact⟨h0,h1⟩
 refine⟨decide_eq_true (by show (pK l F.1 d q.Ring (D.map ndi)).1.nE.length≤16777216;omega), ?_⟩
 simp only[zH,w4,Bool.and_eq_true,List.all_eq_true] at h1
 simp only[Bool.not_true,cond_false,zH,w4,Bool.and_eq_true,List.all_eq_true]
 refine⟨ht.1,decide_eq_true ?_,fun r hr=> ?_⟩
 ·simp only[List.length_append,List.length_cons,List.length_nil];omega
 ·rcases List.mem_append.1 hr with hr | hr
  ·exact h1.2.2 r hr
  ·rw[List.mem_singleton] at hr
   rw[hr]
   exact ht.2
theorem nzt {h:ny} {p:nx} {size cut:Int} (hs:t6 h=true) (hw:h.Tx.nr.length≤1048576):t6 (vh h p size cut).1=true:=by
 unfold vh
 cases nah h
 ·exact hs
 ·simp only[t6,Bool.and_eq_true] at hs
  obtain⟨s0,s1,s2,s3,s4⟩:=hs
  have k:=nwa (l:=h.Maps) (d:=0) (p:=p) (size:=size) (cut:=cut) s0 (show zH h.Tx=true by simp only[zH,s2,s3,Bool.and_self]) hw
  have k2:=k.2
  simp only[zH,Bool.and_eq_true] at k2
  simp only[Bool.not_true,cond_false,t6,Bool.and_eq_true]
  exact⟨k.1,s1,k2.1,k2.2,s4⟩
def PD (k_:Bool→α) (aH:ny) (aP:nx) (ngA nwc:Int):α:=
 let z0:Bool:=yo (oE aH) (oE aP) ngA nwc
 let z1:Bool:=Eb (Eb true (sJ aH)) z0
 let z2:ny×Bool:=vh (oE aH) (oE aP) ngA nwc
 let z3:Bool:= !(pc z2.1 z2.1)
 let z4:Bool:=Eb true (same z2.1 z2.1)
 let z5:Bool:=LV z3 z4 z4
 let z6:Bool:=bif z3 then true else !(z2.2==z2.2)
 let z7:Bool:=decide ((ph (oE aH) 1).1<0)
 let z8:Int×Rows×Rows×Rows×Rows×Rows×Rows×Rows×Rows×Rows×Rows×Rows×Rows×Rows×Rows×Rows×Rows:=ph z2.1 1
 let z9:ny:=(⟨(⟨z8.2.1⟩:na),z8.2.2.1,(⟨z2.1.Tx.Ring,(⟨z2.1.Tx.nI.oG,z2.1.Tx.nI.nL,z2.1.Tx.nI.Count,z8.2.2.2.1⟩:nv),z8.2.2.2.2.1,z2.1.Tx.Next⟩:nh),z8.2.2.2.2.2.1,z8.2.2.2.2.2.2.1,z8.2.2.2.2.2.2.2.1,z8.2.2.2.2.2.2.2.2.1,(⟨z2.1.Filter.Mac,z2.1.Filter.pS,z8.2.2.2.2.2.2.2.2.2.1⟩:nC),(⟨z8.2.2.2.2.2.2.2.2.2.2.1,(⟨z8.2.2.2.2.2.2.2.2.2.2.2.1⟩:ni),(⟨z2.1.nz.oF.Key,z8.2.2.2.2.2.2.2.2.2.2.2.2.1⟩:nG)⟩:nk),z8.2.2.2.2.2.2.2.2.2.2.2.2.2.1,z2.1.sj,z8.2.2.2.2.2.2.2.2.2.2.2.2.2.2.1,z8.2.2.2.2.2.2.2.2.2.2.2.2.2.2.2.1,z8.2.2.2.2.2.2.2.2.2.2.2.2.2.2.2.2,z2.1.Counters⟩:ny)
 let z10:Bool:=Eb true (OI z9 1)
 let z11:Int:=Yv z9 1
 let z12:Bool:=decide (z11<0)
 let z13:Bool:=z11 != z8.1
 bif decide (rX aH 1048576<0) then k_ true
 else bif decide (sf aP (rX aH 1048576)<0) then k_ true
 else bif z1 then
   bif Eb true (sJ aH) then
    bif Eb true z0 then
     bif z5 then
      bif z6 then k_ false
      else bif Eb (Eb true (sJ aH)) (same (oE aH) (oE aH)) then
        bif !(pc (oE aH) (oE aH)) then k_ false
        else bif Eb true (yC (oE aH) 1) then
          bif LV z7 true z5 then
           bif bif z7 then true else z6 then k_ false
           else bif Eb true (yC z2.1 1) then
             bif z10 then
              bif z12 then k_ false
              else bif z13 then k_ false
              else bif z1 then
                bif z5 then
                 bif z6 then k_ false
                 else bif z10 then
                   bif z12 then k_ false
                   else bif z13 then k_ false
                   else k_ true
                  else ke
                else ke
               else ke
             else ke
            else ke
          else ke
         else ke
       else ke
     else ke
    else ke
   else ke
  else ke
theorem naF (k_:Bool→α) (aH:ny) (aP:nx) (ngA nwc:Int) (nBP:kc ny.ct aH.enc) (nCI:kc nx.ct aP.enc) (nAS:G1 .i (.int ngA)) (nBO:G1 .i (.int nwc)) (aJ:Ws (ny.ct++(nx.ct++(.i::(.i::([]))))) (aH.enc++(aP.enc++(.int ngA::(.int nwc::([])))))=true):PD ke k_ aH aP ngA nwc=k_ true:=by
 unfold PD
 by_cases c0:rX aH 1048576<0
 ·simp only[c0,decide_true,decide_false,cond_true,cond_false]
 have k0:=nui nBP (by omega) (by omega) (Int.not_lt.1 c0)
 by_cases c1:sf aP (rX aH 1048576)<0
 ·simp only[c0,c1,decide_true,decide_false,cond_true,cond_false]
 have k1:=Zz nCI (Int.not_lt.1 c0) k0.1 (Int.not_lt.1 c1)
 have hs:=nBl k0.2
 have hb:=nBd nBP (by omega) (by omega) (Int.not_lt.1 c0)
 obtain⟨_,nw,_⟩:=nq4 nBP (by omega) (by omega) (Int.not_lt.1 c0)
 have ht:yo aH aP ngA nwc=true:=by simp only[yo,hs,hb,Bool.and_self]
 have hs2:t6 (vh aH aP ngA nwc).1=true:=nzt hs nw
 obtain⟨K,P0,P1,P2,P3,P4,P5,P6,P7,P8,P9,P10,P11,P12,P13,P14,P15,mh0,mh1,mh2,_,_⟩:=nAW hs
 obtain⟨J,Q0,Q1,Q2,Q3,Q4,Q5,Q6,Q7,Q8,Q9,Q10,Q11,Q12,Q13,Q14,Q15,nh0,nh1,nh2,nh3,nh4⟩:=nAW hs2
 have mh3:¬K<0:=by omega
 have nh5:¬J<0:=by omega
 simp only[c0,c1,decide_false,cond_false,cond_true,oE,k0.2,k1.2,ht,mh0,mh1,mh3,nh0,nh1,nh3,nh4,nh5,ng,nm,pA,pc,beq_self_eq_true,bne_self_eq_false,Bool.not_true,zG]
end
end Go.Proofs.YtngbcccnjiaddaaGreat.Pl
