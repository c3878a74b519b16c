/- Plain forms. Conditions: as each says. -/
import Derived.Test.YtnlkklmcfafgeaaGreatP0
import Derived.Test.YtnlkklmcfafgeaaGreatBit
import Derived.Test.YtnlkklmcfafgeaaGreatDp
set_option linter.unusedVariables false
set_option linter.unusedSimpArgs false
set_option maxRecDepth 100000
namespace Go.Proofs.YtnlkklmcfafgeaaGreat.Pl
open Vm
noncomputable section
variable {α:Type} (ke:α)
structure wS where
 Tos:Int
 Id:Int
 Ttl:Int
 no7:Int
 Src:Int
 Dst:Int
 Body:Bytes
def wS.enc (x:wS):List DC:=[.int x.Tos,.int x.Id,.int x.Ttl,.int x.no7,.int x.Src,.int x.Dst,.str x.Body]
def wS.nd (r:List DC) (o:Nat):wS:=⟨rI r (o+0),rI r (o+1),rI r (o+2),rI r (o+3),rI r (o+4),rI r (o+5),rS r (o+6)⟩
def wS.ct:List CT:=[.i,.i,.i,.i,.i,.i,.str]
theorem wS.eta {r:List DC} (h:kc wS.ct r):(wS.nd r 0).enc=r:=(show (wS.nd r 0).enc=sN wS.ct r 0 from by kernel_rfl).trans (ra h)
theorem wS.nB {r:List CT} {ds:List DC} (h:kc (wS.ct++r) ds):∃(x:wS) (aX:List DC),ds=x.enc++aX∧kc wS.ct x.enc∧kc r aX:=by
 obtain⟨d1,d2,rfl,h1,h2⟩:=qt h
 exact⟨wS.nd d1 0,d2,by rw[wS.eta h1],by rw[wS.eta h1];exact h1,h2⟩
theorem wS.nxz {x:wS} (h:kc wS.ct x.enc):G9 .i (.int x.Tos):=oB 0 h rfl rfl
theorem wS.nxL {x:wS} (h:kc wS.ct x.enc):G9 .i (.int x.Id):=oB 1 h rfl rfl
theorem wS.nxA {x:wS} (h:kc wS.ct x.enc):G9 .i (.int x.Ttl):=oB 2 h rfl rfl
theorem wS.nxy {x:wS} (h:kc wS.ct x.enc):G9 .i (.int x.Src):=oB 4 h rfl rfl
theorem wS.nxv {x:wS} (h:kc wS.ct x.enc):G9 .i (.int x.Dst):=oB 5 h rfl rfl
theorem wS.ntU {x:wS} (h:kc wS.ct x.enc):G9 .str (.str x.Body):=oB 6 h rfl rfl
structure sf where
 Dst:Int
 Src:Int
 PJ:Int
 nsM:Int
 Body:Bytes
def sf.enc (x:sf):List DC:=[.int x.Dst,.int x.Src,.int x.PJ,.int x.nsM,.str x.Body]
def sf.nd (r:List DC) (o:Nat):sf:=⟨rI r (o+0),rI r (o+1),rI r (o+2),rI r (o+3),rS r (o+4)⟩
def sf.ct:List CT:=[.i,.i,.i,.i,.str]
theorem sf.eta {r:List DC} (h:kc sf.ct r):(sf.nd r 0).enc=r:=(show (sf.nd r 0).enc=sN sf.ct r 0 from by kernel_rfl).trans (ra h)
theorem sf.nB {r:List CT} {ds:List DC} (h:kc (sf.ct++r) ds):∃(x:sf) (aX:List DC),ds=x.enc++aX∧kc sf.ct x.enc∧kc r aX:=by
 obtain⟨d1,d2,rfl,h1,h2⟩:=qt h
 exact⟨sf.nd d1 0,d2,by rw[sf.eta h1],by rw[sf.eta h1];exact h1,h2⟩
theorem sf.nxv {x:sf} (h:kc sf.ct x.enc):G9 .i (.int x.Dst):=oB 0 h rfl rfl
theorem sf.nxy {x:sf} (h:kc sf.ct x.enc):G9 .i (.int x.Src):=oB 1 h rfl rfl
theorem sf.nvA {x:sf} (h:kc sf.ct x.enc):G9 .i (.int x.PJ):=oB 2 h rfl rfl
theorem sf.ntU {x:sf} (h:kc sf.ct x.enc):G9 .str (.str x.Body):=oB 4 h rfl rfl
def RA {α:Type} (k_:Bytes→α) (v:Int):α:=
 bif !(nh v 0 65535) then k_ []
 else k_ (toStr ([[.int (IntKind.wrap .u8 (nwZ .i64 v 8))],[.int (IntKind.wrap .u8 v)]]))
def oK (v:Int):Bytes:=RA id v
theorem nfP {α:Type} (k_:Bytes→α) (v:Int):RA k_ v=k_ (oK v):=by
 exact Ka rfl rfl
theorem rp (v:Int):(qv v).length≤4:=by
 unfold qv RD
 cases !(nh v 0 4294967295)<;>simp [toStr]
theorem pd (v:Int):(oK v).length≤2:=by
 unfold oK RA
 cases !(nh v 0 65535)<;>simp [toStr]
theorem ncB {a b:Bytes} (h:a.length+b.length≤9223372036854775807):oZ a b=true:=decide_eq_true h
theorem tL (r:Rows):(toStr r).length=r.length:=by simp [toStr]
def ss (s:Bytes):Bool:=decide (s.length≤4294967296)
theorem ntI {q:nA} (h:sn q=true):q.Body.length≤320:=by
 unfold sn wI at h
 by_cases h3:320<len q.Body
 ·rw[decide_eq_true h3] at h
  revert h
  cases !(nh q.ox 0 65535)<;>cases !(nh q.ov 0 65535)<;>simp
 ·simp only[len] at h3
  omega
def ncI {α:Type} (k_:Int→α) (a b:Int):α:=
 bif bif !(nh a 0 65535) then true else !(nh b 0 65535) then k_ (-1)
 else bif decide (65535<nS (a+b)) then k_ (nS ((nS (a+b)) - 65535))
 else k_ (nS (a+b))
def nh8 (a b:Int):Int:=ncI id a b
theorem ncH {α:Type} (k_:Int→α) (a b:Int):ncI k_ a b=k_ (nh8 a b):=by
 exact Ka rfl (Ka rfl rfl)
def zb (k_:Int→α) (s:Bytes) (oP:Int→Int→α) (sum i:Int):α:=
 let z0:Bool:=decide (nS (i+1)<len s)
 let z1:Int:=ncv .i64 (nS (zQ s i)) 8
 bif decide (i<len s) then
  bif Ei true (idx i s) then
   bif L1 z0 (Ei true (idx (nS (i+1)) s)) true then
    oP (nh8 sum (bif z0 then bits .or .i64 z1 (nS (zQ s (nS (i+1)))) else z1)) (nS (i+2))
   else ke
  else ke
 else k_ sum
def za (k_:Int→α) (N:Nat) (s:Bytes) (m_:Nat):Int→Int→α:=
 Nat.rec (motive:=fun _=>Int→Int→α) (fun _ _=>ke) (fun _ oP=>zb ke k_ s oP) m_
theorem Up (k_:Int→α) (N:Nat) (s:Bytes) (m_:Nat):za ke k_ N s (m_+1)=zb ke k_ s (za ke k_ N s m_):=rfl
def Sq {α:Type} (ke:α) (k_:Int→α) (l0:Int→Int→α) (s:Bytes):α:=
 l0 0 0
def naV (k_:Int→α) (N:Nat) (s:Bytes):α:=Sq ke k_ (za ke k_ N s N) s
def swW (s:Bytes) (i:Nat):Int:=zQ s (i:Int)*256+(bif decide (((i:Int)+1)<len s) then zQ s ((i:Int)+1) else 0)
def swF (s:Bytes) (j:Nat) (c:Int):Int:=nh8 c (swW s (2*j))
def nsL (s:Bytes):Int:=itN (swF s) ((s.length+1) / 2) 0 0
def X7 (s:Bytes):Int:=shut nsL s
theorem nmb (s:Bytes):X7 s=itN (swF s) ((s.length+1) / 2) 0 0:=congrFun (nw0 nsL) s
theorem nmW (k_:Int→α) (s:Bytes) (yZ:G9 .str (.str s)) (aJ:ss s=true):∃N,naV ke k_ N s=k_ (X7 s):=by
 have hl:=yR yZ
 refine⟨s.length+1, ?_⟩
 have HN:s.length≤4294967296:=of_decide_eq_true aJ
 rw[nmb]
 unfold naV Sq
 have key:∀(m n j:Nat) (c:Int),j+m=(s.length+1) / 2→m<n→za ke k_ (s.length+1) s n c ((2*j:Nat):Int)=k_ (itN (swF s) m j c):=by
  intro m
  induction m with
  | zero=>
   intro n j c h1 h2
   obtain⟨n,rfl⟩:∃q,n=q+1:=⟨n - 1,by omega⟩
   have hf:decide (((2*j:Nat):Int)<len s)=false:=decide_eq_false (by simp only[len];omega)
   rw[Up]
   simp only[zb,hf,cond_false,itN]
  | succ m ih=>
   intro n j c h1 h2
   obtain⟨n,rfl⟩:∃q,n=q+1:=⟨n - 1,by omega⟩
   have cr:2*j<s.length:=by omega
   have hw1:nS (((2*j:Nat):Int)+1)=((2*j:Nat):Int)+1:=nP (by omega) (by omega)
   have hw2:nS (((2*j:Nat):Int)+2)=((2*(j+1):Nat):Int):=by rw[nP (by omega) (by omega)];omega
   have aJ:L1 (decide (((2*j:Nat):Int)+1<len s)) (idx (((2*j:Nat):Int)+1) s) true=true:=Xj (fun h=>by
    have h:=of_decide_eq_true h
    simp only[len] at h
    simp only[idx,Bool.and_eq_true,decide_eq_true_eq]
    omega) (fun _=>rfl)
   have b0:=tr s ((2*j:Nat):Int)
   have c0:=vr s ((2*j:Nat):Int)
   have b1:=tr s (((2*j:Nat):Int)+1)
   have c1:=vr s (((2*j:Nat):Int)+1)
   have e0:ncv .i64 (zQ s ((2*j:Nat):Int)) 8=zQ s ((2*j:Nat):Int)*256:=by rw[nwH,nP (by omega) (by omega)]
   have hv:(bif decide (((2*j:Nat):Int)+1<len s) then bits .or .i64 (zQ s ((2*j:Nat):Int)*256) (zQ s (((2*j:Nat):Int)+1)) else zQ s ((2*j:Nat):Int)*256)=swW s (2*j):=by
    unfold swW
    cases decide (((2*j:Nat):Int)+1<len s)
    ·simp
    ·simp only[cond_true]
     rw[Z8 8 (y:=zQ s (((2*j:Nat):Int)+1)) (by omega) (by omega) (by omega) (by omega) (by omega) (by omega)]
   rw[Up]
   simp only[zb,pw cr,nY cr,hw1,hw2,aJ,ng,cond_true,nP (n:=zQ s ((2*j:Nat):Int)) (by omega) (by omega),nP (n:=zQ s (((2*j:Nat):Int)+1)) (by omega) (by omega),e0,hv]
   exact ih n (j+1) _ (by omega) (by omega)
 exact key ((s.length+1) / 2) (s.length+1) 0 0 (by omega) (by omega)
def zH (k_:Int→α) (s:Bytes) (oP:Int→Int→α) (sum i:Int):α:=
 let z0:Bool:=decide (nS (i+1)<len s)
 let z1:Int:=ncv .i64 (nS (zQ s i)) 8
 bif decide (i<len s) then
  bif Ei true (idx i s) then
   bif L1 z0 (Ei true (idx (nS (i+1)) s)) true then
    oP (nh8 sum (bif z0 then nS (z1+(nS (zQ s (nS (i+1))))) else z1)) (nS (i+2))
   else ke
  else ke
 else k_ sum
def zG (k_:Int→α) (N:Nat) (s:Bytes) (m_:Nat):Int→Int→α:=
 Nat.rec (motive:=fun _=>Int→Int→α) (fun _ _=>ke) (fun _ oP=>zH ke k_ s oP) m_
theorem VT (k_:Int→α) (N:Nat) (s:Bytes) (m_:Nat):zG ke k_ N s (m_+1)=zH ke k_ s (zG ke k_ N s m_):=rfl
def SR {α:Type} (ke:α) (k_:Int→α) (l0:Int→Int→α) (s:Bytes):α:=
 l0 0 0
def nci (k_:Int→α) (N:Nat) (s:Bytes):α:=SR ke k_ (zG ke k_ N s N) s
theorem noK (k_:Int→α) (s:Bytes) (yZ:G9 .str (.str s)) (aJ:ss s=true):∃N,nci ke k_ N s=k_ (X7 s):=by
 have hl:=yR yZ
 refine⟨s.length+1, ?_⟩
 have HN:s.length≤4294967296:=of_decide_eq_true aJ
 rw[nmb]
 unfold nci SR
 have key:∀(m n j:Nat) (c:Int),j+m=(s.length+1) / 2→m<n→zG ke k_ (s.length+1) s n c ((2*j:Nat):Int)=k_ (itN (swF s) m j c):=by
  intro m
  induction m with
  | zero=>
   intro n j c h1 h2
   obtain⟨n,rfl⟩:∃q,n=q+1:=⟨n - 1,by omega⟩
   have hf:decide (((2*j:Nat):Int)<len s)=false:=decide_eq_false (by simp only[len];omega)
   rw[VT]
   simp only[zH,hf,cond_false,itN]
  | succ m ih=>
   intro n j c h1 h2
   obtain⟨n,rfl⟩:∃q,n=q+1:=⟨n - 1,by omega⟩
   have cr:2*j<s.length:=by omega
   have hw1:nS (((2*j:Nat):Int)+1)=((2*j:Nat):Int)+1:=nP (by omega) (by omega)
   have hw2:nS (((2*j:Nat):Int)+2)=((2*(j+1):Nat):Int):=by rw[nP (by omega) (by omega)];omega
   have aJ:L1 (decide (((2*j:Nat):Int)+1<len s)) (idx (((2*j:Nat):Int)+1) s) true=true:=Xj (fun h=>by
    have h:=of_decide_eq_true h
    simp only[len] at h
    simp only[idx,Bool.and_eq_true,decide_eq_true_eq]
    omega) (fun _=>rfl)
   have b0:=tr s ((2*j:Nat):Int)
   have c0:=vr s ((2*j:Nat):Int)
   have b1:=tr s (((2*j:Nat):Int)+1)
   have c1:=vr s (((2*j:Nat):Int)+1)
   have e0:ncv .i64 (zQ s ((2*j:Nat):Int)) 8=zQ s ((2*j:Nat):Int)*256:=by rw[nwH,nP (by omega) (by omega)]
   have hv:(bif decide (((2*j:Nat):Int)+1<len s) then nS (zQ s ((2*j:Nat):Int)*256+zQ s (((2*j:Nat):Int)+1)) else zQ s ((2*j:Nat):Int)*256)=swW s (2*j):=by
    unfold swW
    cases decide (((2*j:Nat):Int)+1<len s)
    ·simp
    ·simp only[cond_true]
     rw[nP (by omega) (by omega)]
   rw[VT]
   simp only[zH,pw cr,nY cr,hw1,hw2,aJ,ng,cond_true,nP (n:=zQ s ((2*j:Nat):Int)) (by omega) (by omega),nP (n:=zQ s (((2*j:Nat):Int)+1)) (by omega) (by omega),e0,hv]
   exact ih n (j+1) _ (by omega) (by omega)
 exact key ((s.length+1) / 2) (s.length+1) 0 0 (by omega) (by omega)
def nam (k_:Int→α) (s:Bytes):α:=
 bif Ei true (ss s) then
  k_ (nS (65535 - (X7 s)))
 else ke
def OB (s:Bytes):Int:=nS (65535 - X7 s)
theorem nak (k_:Int→α) (s:Bytes) (aJ:ss s=true):nam ke k_ s=k_ (OB s):=by
 have h:ss s=true:=aJ
 unfold nam OB
 simp only[h,ng,cond_true]
def naK (k_:Bytes→α) (s:Bytes) (at_:Int) (part:Bytes):α:=
 let z0:Bytes:=tu s (nS (at_+(len part)))
 bif bif decide (at_<0) then true else decide (nS ((len s) - (len part))<at_) then k_ s
 else bif Ei (Ei (Ei (Ei true (okH s at_)) (oZ (X1 s at_) part)) (QK s (nS (at_+(len part))))) (oZ ((X1 s at_)++part) z0) then
   k_ (((X1 s at_)++part)++z0)
  else ke
def q_ (s:Bytes) (at_:Int) (part:Bytes):Bool:=decide (s.length≤4294967296) && decide (part.length≤4294967296)
def uW (s:Bytes) (at_:Int) (part:Bytes):Bytes:=bif !(qX s at_ (len part)) then s else s.take at_.toNat++part++s.drop (at_.toNat+part.length)
theorem no8 {s:Bytes} {at_:Int} {part:Bytes} (hs:s.length≤9223372036854775807):(uW s at_ part).length=s.length:=by
 unfold uW
 cases hw:qX s at_ (len part)
 ·rfl
 ·have:=(within_iff hs).1 hw
  simp only[len] at this
  simp only[Bool.not_true,cond_false,List.length_append,List.length_take,List.length_drop]
  omega
theorem nmP (k_:Bytes→α) (s:Bytes) (at_:Int) (part:Bytes) (aJ:q_ s at_ part=true):naK ke k_ s at_ part=k_ (uW s at_ part):=by
 simp only[q_,Bool.and_eq_true,decide_eq_true_eq] at aJ
 unfold naK uW
 have nxn:(bif decide (at_<0) then true else decide (nS (len s - len part)<at_))= !(qX s at_ (len part)):=by
  have h1:=within_iff (s:=s) (at_:=at_) (n:=len part) (by omega)
  rw[nP (n:=len s - len part) (by simp only[len];omega) (by simp only[len];omega)]
  cases hw:qX s at_ (len part)
  ·by_cases h0:at_<0
   ·simp [h0]
   ·by_cases h2:len s - len part<at_
    ·simp [h0,h2]
    ·rw[h1.2 (by simp only[len] at h2 ⊢;omega)] at hw
     cases hw
  ·have:=h1.1 hw
   simp [show ¬at_<0 by omega,show ¬len s - len part<at_ by omega]
 rw[nxn]
 refine pH (fun _=>rfl) (fun hg=> ?_)
 have hw:=(within_iff (by omega)).1 (show qX s at_ (len part)=true by simpa using hg)
 have e1:nS (at_+len part)=at_+len part:=by simp only[len] at hw ⊢;exact nP (by omega) (by omega)
 have e2:X1 s at_=s.take at_.toNat:=by simp [X1]
 have e3:tu s (at_+len part)=s.drop (at_.toNat+part.length):=by
  simp only[tu,List.take_length,len]
  congr 1
  omega
 have g1:okH s at_=true:=by simp only[len] at hw;simp only[okH,Bool.and_eq_true,decide_eq_true_eq];omega
 have g2:QK s (at_+len part)=true:=by simp only[len] at hw ⊢;simp only[QK,Bool.and_eq_true,decide_eq_true_eq];omega
 have g3:oZ (s.take at_.toNat) part=true:=by simp only[oZ,List.length_take,decide_eq_true_eq];omega
 have g4:oZ (s.take at_.toNat++part) (s.drop (at_.toNat+part.length))=true:=by simp only[oZ,List.length_append,List.length_take,List.length_drop,decide_eq_true_eq];omega
 simp only[e1,e2,e3,g1,g2,g3,g4,ng,cond_true]
def nb8 (k_:Bytes→α) (s:Bytes) (at_:Int) (part:Bytes):α:=
 let z0:Bytes:=tu s (nS (at_+(len part)))
 bif !(qX s at_ (len part)) then k_ s
 else bif Ei (Ei (Ei (Ei true (okH s at_)) (oZ (X1 s at_) part)) (QK s (nS (at_+(len part))))) (oZ ((X1 s at_)++part) z0) then
   k_ (((X1 s at_)++part)++z0)
  else ke
theorem noE (k_:Bytes→α) (s:Bytes) (at_:Int) (part:Bytes) (aJ:q_ s at_ part=true):nb8 ke k_ s at_ part=k_ (uW s at_ part):=by
 simp only[q_,Bool.and_eq_true,decide_eq_true_eq] at aJ
 unfold nb8 uW
 refine pH (fun _=>rfl) (fun hg=> ?_)
 have hw:=(within_iff (by omega)).1 (show qX s at_ (len part)=true by simpa using hg)
 have e1:nS (at_+len part)=at_+len part:=by simp only[len] at hw ⊢;exact nP (by omega) (by omega)
 have e2:X1 s at_=s.take at_.toNat:=by simp [X1]
 have e3:tu s (at_+len part)=s.drop (at_.toNat+part.length):=by
  simp only[tu,List.take_length,len]
  congr 1
  omega
 have g1:okH s at_=true:=by simp only[len] at hw;simp only[okH,Bool.and_eq_true,decide_eq_true_eq];omega
 have g2:QK s (at_+len part)=true:=by simp only[len] at hw ⊢;simp only[QK,Bool.and_eq_true,decide_eq_true_eq];omega
 have g3:oZ (s.take at_.toNat) part=true:=by simp only[oZ,List.length_take,decide_eq_true_eq];omega
 have g4:oZ (s.take at_.toNat++part) (s.drop (at_.toNat+part.length))=true:=by simp only[oZ,List.length_append,List.length_take,List.length_drop,decide_eq_true_eq];omega
 simp only[e1,e2,e3,g1,g2,g3,g4,ng,cond_true]
def S3 (k_:Bytes→Bool→α) (src dst kind length:Int):α:=
 let z0:Bytes:=((qv src)++(qv dst))++(toStr ([[.int 0],[.int (IntKind.wrap .u8 kind)]]))
 bif bif !(nh src 0 4294967295) then true else bif !(nh dst 0 4294967295) then true else bif !(nh kind 0 255) then true else !(nh length 0 65535) then k_ [] false
 else bif Ei (Ei (Ei true (oZ (qv src) (qv dst))) (oZ ((qv src)++(qv dst)) (toStr ([[.int 0],[.int (IntKind.wrap .u8 kind)]])))) (oZ z0 (oK length)) then
   k_ (z0++(oK length)) true
  else ke
def qT (src dst kind length:Int):Bytes×Bool:=
 bif bif !(nh src 0 4294967295) then true else bif !(nh dst 0 4294967295) then true else bif !(nh kind 0 255) then true else !(nh length 0 65535) then ([],false)
 else (qv src++qv dst++toStr ([[.int 0],[.int (IntKind.wrap .u8 kind)]])++oK length,true)
theorem X5 (src dst kind length:Int):(qT src dst kind length).1.length≤12:=by
 have a:=rp src
 have b:=rp dst
 have c:=pd length
 unfold qT
 cases (bif !(nh src 0 4294967295) then true else bif !(nh dst 0 4294967295) then true else bif !(nh kind 0 255) then true else !(nh length 0 65535))
 ·simp only[cond_false,List.length_append,tL,List.length_cons,List.length_nil]
  omega
 ·exact Nat.zero_le _
theorem S2 (k_:Bytes→Bool→α) (src dst kind length:Int):S3 ke k_ src dst kind length=k_ (qT src dst kind length).1 (qT src dst kind length).2:=by
 have a:=rp src
 have b:=rp dst
 have c:=pd length
 have g1:oZ (qv src) (qv dst)=true:=ncB (by omega)
 have g2:∀r,oZ (qv src++qv dst) (toStr [[.int 0],r])=true:=fun r=>ncB (by simp only[List.length_append,tL,List.length_cons,List.length_nil];omega)
 have g3:∀r,oZ (qv src++qv dst++toStr [[.int 0],r]) (oK length)=true:=fun r=>ncB (by simp only[List.length_append,tL,List.length_cons,List.length_nil];omega)
 unfold S3 qT
 simp only[g1,g2,g3,ng,cond_true]
 exact Ka (K:=fun r:Bytes×Bool=>k_ r.1 r.2) rfl rfl
def Sy {α:Type} (k_:Int→α) (kind:Int):α:=
 bif kind==6 then k_ 16
 else k_ 6
def Nq (kind:Int):Int:=Sy id kind
theorem nne {α:Type} (k_:Int→α) (kind:Int):Sy k_ kind=k_ (Nq kind):=by
 exact Ka rfl rfl
def Uw (k_:Bytes→α) (g:nA):α:=
 let z0:Bytes:=(oK g.ox)++(oK g.ov)
 let z1:Bytes:=z0++(qv g.Seq)
 let z2:Bytes:=z1++(qv g.Ack)
 let z3:Bytes:=z2++(toStr ([[.int 80],[.int (IntKind.wrap .u8 g.Flags)]]))
 let z4:Bytes:=z3++(oK g.uF)
 let z5:Bytes:=z4++(oK 0)
 let z6:Bytes:=z5++(oK 0)
 let z7:Bytes:=oK (nS (8+(len g.Body)))
 let z8:Bytes:=z0++z7
 let z9:Bytes:=z8++(oK 0)
 bif Ei true (oZ (oK g.ox) (oK g.ov)) then
  bif g.Kind==6 then
   bif Ei (Ei (Ei (Ei (Ei (Ei (Ei true (oZ z0 (qv g.Seq))) (oZ z1 (qv g.Ack))) (oZ z2 (toStr ([[.int 80],[.int (IntKind.wrap .u8 g.Flags)]])))) (oZ z3 (oK g.uF))) (oZ z4 (oK 0))) (oZ z5 (oK 0))) (oZ z6 g.Body) then
    k_ (z6++g.Body)
   else ke
  else bif Ei (Ei (Ei true (oZ z0 z7)) (oZ z8 (oK 0))) (oZ z9 g.Body) then
    k_ (z9++g.Body)
   else ke
 else ke
def Z_ (q:nA):Bytes:=bif q.Kind==6 then oK q.ox++oK q.ov++qv q.Seq++qv q.Ack++toStr ([[.int 80],[.int (IntKind.wrap .u8 q.Flags)]])++oK q.uF++oK 0++oK 0
 else oK q.ox++oK q.ov++oK (nS (8+(len q.Body)))++oK 0
def pz (q:nA):Bytes:=Z_ q++q.Body
def ntm (q:nA):Bool:=decide (q.Body.length≤1000)
theorem nmp (q:nA):(Z_ q).length≤20:=by
 have a:=pd q.ox
 have b:=pd q.ov
 have c:=rp q.Seq
 have d:=rp q.Ack
 have e:=pd q.uF
 have f:=pd 0
 have h:=pd (nS (8+(len q.Body)))
 unfold Z_
 cases q.Kind==6
 ·simp only[cond_false,List.length_append];omega
 ·simp only[cond_true,List.length_append,tL,List.length_cons,List.length_nil];omega
theorem naj (q:nA):(pz q).length≤q.Body.length+20:=by
 have:=nmp q
 simp only[pz,List.length_append]
 omega
theorem ngV (k_:Bytes→α) (g:nA) (aJ:ntm g=true):Uw ke k_ g=k_ (pz g):=by
 have hb:g.Body.length≤1000:=of_decide_eq_true aJ
 have a:=pd g.ox
 have b:=pd g.ov
 have c:=rp g.Seq
 have d:=rp g.Ack
 have e:=pd g.uF
 have f:=pd 0
 have f4:=rp 0
 have hh:=pd (nS (8+(len g.Body)))
 unfold Uw pz Z_
 refine pT (by simp only[gr,oZ,ss,List.length_append,tL,List.length_cons,List.length_nil,decide_eq_true_eq,true_and,and_true];omega) ?_
 cases g.Kind==6
 ·simp only[cond_false]
  refine pT (by simp only[gr,oZ,ss,List.length_append,tL,List.length_cons,List.length_nil,decide_eq_true_eq,true_and,and_true];omega) ?_
  rfl
 ·simp only[cond_true]
  refine pT (by simp only[gr,oZ,ss,List.length_append,tL,List.length_cons,List.length_nil,decide_eq_true_eq,true_and,and_true];omega) ?_
  rfl
def SY (k_:Bytes→Bool→α) (src dst:Int) (g:nA):α:=
 let z0:Bytes×Bool:=qT src dst g.Kind (len (pz g))
 let z1:Bytes:=z0.1++(pz g)
 let z2:Int:=OB z1
 let z3:Bytes:=oK (bif bif g.Kind==17 then z2==0 else false then 65535 else z2)
 bif !(sn g) then k_ [] false
 else bif Ei true (ntm g) then
   bif !z0.2 then k_ [] false
   else bif Ei (Ei true (oZ z0.1 (pz g))) (ss z1) then
     bif Ei true (q_ (pz g) (Nq g.Kind) z3) then
      k_ (uW (pz g) (Nq g.Kind) z3) true
     else ke
    else ke
  else ke
theorem nur (kind:Int):Nq kind=bif kind==6 then 16 else 6:=by
 unfold Nq Sy
 cases kind==6<;>rfl
def nlN (src dst:Int) (g:nA):Int:=OB ((qT src dst g.Kind (len (pz g))).1++pz g)
def sC (src dst:Int) (g:nA):Bytes×Bool:=
 bif !(sn g) then ([],false) else bif !(qT src dst g.Kind (len (pz g))).2 then ([],false)
 else (uW (pz g) (Nq g.Kind) (oK (bif bif g.Kind==17 then nlN src dst g==0 else false then 65535 else nlN src dst g)),true)
theorem neX (k_:Bytes→Bool→α) (src dst:Int) (g:nA):SY ke k_ src dst g=k_ (sC src dst g).1 (sC src dst g).2:=by
 unfold SY sC
 refine pH (K:=fun r:Bytes×Bool=>k_ r.1 r.2) (fun _=>rfl) (fun hg=> ?_)
 have hs:sn g=true:=by simpa using hg
 have a:=ntI hs
 have b:=naj g
 have hp:=X5 src dst g.Kind (len (pz g))
 have g1:ntm g=true:=decide_eq_true (by omega)
 have g2:oZ (qT src dst g.Kind (len (pz g))).1 (pz g)=true:=ncB (by omega)
 have g3:∀v,q_ (pz g) (Nq g.Kind) (oK v)=true:=fun v=>by
  have:=pd v
  simp only[q_,Bool.and_eq_true,decide_eq_true_eq];omega
 have g4:ss ((qT src dst g.Kind (len (pz g))).1++pz g)=true:=decide_eq_true (by rw[List.length_append];omega)
 simp only[g1,g2,g3,g4,ng,cond_true]
 exact Ka (K:=fun r:Bytes×Bool=>k_ r.1 r.2) rfl rfl
def Tt (k_:Bytes→Bool→α) (src dst:Int) (g:nA):α:=
 let z0:Bytes:=(oK g.ox)++(oK g.ov)
 let z1:Bytes:=z0++(qv g.Seq)
 let z2:Bytes:=z1++(qv g.Ack)
 let z3:Bytes:=z2++(toStr ([[.int 80],[.int (IntKind.wrap .u8 g.Flags)]]))
 let z4:Bytes:=z3++(oK g.uF)
 let z5:Bytes:=oK (nS (8+(len g.Body)))
 let z6:Bytes:=z0++z5
 let z7:Bytes:=bif g.Kind==6 then z4++(qv 0) else z6++(oK 0)
 let z8:Bytes:=z7++g.Body
 let z9:Bytes×Bool:=qT src dst g.Kind (len z8)
 let TR:Bytes:=z9.1
 let z11:Bytes:=TR++z8
 let z12:Int:=bif g.Kind==6 then 16 else 6
 let z13:Int:=OB z11
 let z14:Bytes:=oK (bif bif z13==0 then g.Kind==17 else false then 65535 else z13)
 bif !(sn g) then k_ [] false
 else bif Ei true (oZ (oK g.ox) (oK g.ov)) then
   bif L1 (g.Kind==6) (Ei (Ei (Ei (Ei (Ei true (oZ z0 (qv g.Seq))) (oZ z1 (qv g.Ack))) (oZ z2 (toStr ([[.int 80],[.int (IntKind.wrap .u8 g.Flags)]])))) (oZ z3 (oK g.uF))) (oZ z4 (qv 0))) (Ei (Ei true (oZ z0 z5)) (oZ z6 (oK 0))) then
    bif Ei true (oZ z7 g.Body) then
     bif !z9.2 then k_ [] false
     else bif Ei (Ei true (oZ TR z8)) (ss z11) then
       bif Ei true (q_ z8 z12 z14) then
        k_ (uW z8 z12 z14) true
       else ke
      else ke
    else ke
   else ke
  else ke
theorem nfw (k_:Bytes→Bool→α) (src dst:Int) (g:nA):Tt ke k_ src dst g=k_ (sC src dst g).1 (sC src dst g).2:=by
 unfold Tt sC
 refine pH (K:=fun r:Bytes×Bool=>k_ r.1 r.2) (fun _=>rfl) (fun hg=> ?_)
 have hs:sn g=true:=by simpa using hg
 have ha:=ntI hs
 have hb:=naj g
 have hp:=X5 src dst g.Kind (len (pz g))
 have a:=pd g.ox
 have b:=pd g.ov
 have c:=rp g.Seq
 have d:=rp g.Ack
 have e:=pd g.uF
 have f:=pd 0
 have f4:=rp 0
 have hh:=pd (nS (8+(len g.Body)))
 have e0:qv 0=oK 0++oK 0:=by unfold qv oK RD RA;rfl
 have eh:(bif g.Kind==6 then oK g.ox++oK g.ov++qv g.Seq++qv g.Ack++toStr ([[.int 80],[.int (IntKind.wrap .u8 g.Flags)]])++oK g.uF++qv 0 else oK g.ox++oK g.ov++oK (nS (8+(len g.Body)))++oK 0)=Z_ g:=by
  unfold Z_
  cases g.Kind==6
  ·rfl
  ·simp only[cond_true,e0,List.append_assoc]
 refine pT (by simp only[gr,oZ,ss,List.length_append,tL,List.length_cons,List.length_nil,decide_eq_true_eq,true_and,and_true];omega) ?_
 refine pT (Xj (fun _=>(by simp only[gr,oZ,ss,List.length_append,tL,List.length_cons,List.length_nil,decide_eq_true_eq,true_and,and_true];omega)) (fun _=>(by simp only[gr,oZ,ss,List.length_append,tL,List.length_cons,List.length_nil,decide_eq_true_eq,true_and,and_true];omega))) ?_
 rw[eh]
 have DQ:=nmp g
 refine pT (by simp only[gr,oZ,ss,List.length_append,tL,List.length_cons,List.length_nil,decide_eq_true_eq,true_and,and_true];omega) ?_
 have eb:Z_ g++g.Body=pz g:=rfl
 rw[eb]
 have es:(bif g.Kind==6 then (16:Int) else 6)=Nq g.Kind:=(nur _).symm
 have g2:oZ (qT src dst g.Kind (len (pz g))).1 (pz g)=true:=ncB (by omega)
 have g3:∀v,q_ (pz g) (Nq g.Kind) (oK v)=true:=fun v=>by
  have:=pd v
  simp only[q_,Bool.and_eq_true,decide_eq_true_eq];omega
 have ez:(bif nlN src dst g==0 then g.Kind==17 else false)=(bif g.Kind==17 then nlN src dst g==0 else false):=by
  cases nlN src dst g==0<;>cases g.Kind==17<;>rfl
 have es2:OB ((qT src dst g.Kind (len (pz g))).1++pz g)=nlN src dst g:=rfl
 have g4:ss ((qT src dst g.Kind (len (pz g))).1++pz g)=true:=decide_eq_true (by rw[List.length_append];omega)
 simp only[es,es2,ez,g2,g3,g4,ng,cond_true]
 exact Ka (K:=fun r:Bytes×Bool=>k_ r.1 r.2) rfl rfl
def ncR {α:Type} (k_:Bool→α) (d:wS):α:=
 k_ (bif nh d.Tos 0 255 then bif nh d.Ttl 0 255 then bif nh d.no7 0 255 then bif nh d.Id 0 65535 then bif nh d.Src 0 4294967295 then bif nh d.Dst 0 4294967295 then decide (len d.Body≤380) else false else false else false else false else false else false)
def ns9 (d:wS):Bool:=ncR id d
theorem nmd {α:Type} (k_:Bool→α) (d:wS):ncR k_ d=k_ (ns9 d):=by
 rfl
def naE (k_:Bytes→Bool→α) (d:wS):α:=
 let z0:Bytes:=oK (nS (20+(len d.Body)))
 let z1:Bytes:=(toStr ([[.int 69],[.int (IntKind.wrap .u8 d.Tos)]]))++z0
 let z2:Bytes:=z1++(oK d.Id)
 let z3:Bytes:=z2++(oK 16384)
 let z4:Bytes:=z3++(toStr ([[.int (IntKind.wrap .u8 d.Ttl)],[.int (IntKind.wrap .u8 d.no7)]]))
 let z5:Bytes:=z4++(oK 0)
 let z6:Bytes:=z5++(qv d.Src)
 let z7:Bytes:=z6++(qv d.Dst)
 let z8:Bytes:=oK (OB z7)
 bif !(ns9 d) then k_ [] false
 else bif Ei (Ei (Ei (Ei (Ei (Ei (Ei true (oZ (toStr ([[.int 69],[.int (IntKind.wrap .u8 d.Tos)]])) z0)) (oZ z1 (oK d.Id))) (oZ z2 (oK 16384))) (oZ z3 (toStr ([[.int (IntKind.wrap .u8 d.Ttl)],[.int (IntKind.wrap .u8 d.no7)]])))) (oZ z4 (oK 0))) (oZ z5 (qv d.Src))) (oZ z6 (qv d.Dst)) then
   bif Ei (Ei true (ss z7)) (q_ z7 10 z8) then
    k_ (uW z7 10 z8) true
   else ke
  else ke
def ipz (d:wS):Bytes:=toStr ([[.int 69],[.int (IntKind.wrap .u8 d.Tos)]])++oK (nS (20+(len d.Body)))++oK d.Id++oK 16384++toStr ([[.int (IntKind.wrap .u8 d.Ttl)],[.int (IntKind.wrap .u8 d.no7)]])++oK 0++qv d.Src++qv d.Dst
theorem nvl (d:wS):(ipz d).length≤20:=by
 have a:=pd (nS (20+(len d.Body)))
 have b:=pd d.Id
 have c:=pd 16384
 have e:=pd 0
 have f:=rp d.Src
 have h:=rp d.Dst
 simp only[ipz,List.length_append,tL,List.length_cons,List.length_nil]
 omega
def vJ (d:wS):Bytes×Bool:=bif !(ns9 d) then ([],false) else (uW (ipz d) 10 (oK (OB (ipz d))),true)
theorem nvT {d:wS} (h:ns9 d=true):d.Body.length≤380:=by
 unfold ns9 ncR at h
 by_cases h3:len d.Body≤380
 ·simp only[len] at h3
  omega
 ·rw[decide_eq_false h3] at h
  revert h
  cases nh d.Tos 0 255<;>cases nh d.Ttl 0 255<;>cases nh d.no7 0 255<;>cases nh d.Id 0 65535<;>cases nh d.Src 0 4294967295<;>cases nh d.Dst 0 4294967295<;>simp
theorem ns8 (d:wS):(vJ d).1.length≤20:=by
 unfold vJ
 cases ns9 d
 ·exact Nat.zero_le _
 ·have:=nvl d
  simp only[Bool.not_true,cond_false]
  rw[no8 (by omega)]
  exact this
theorem nt0 {d:wS} (h:(vJ d).2=true):ns9 d=true:=by
 unfold vJ at h
 cases hi:ns9 d
 ·rw[hi] at h;cases h
 ·rfl
theorem naD (k_:Bytes→Bool→α) (d:wS):naE ke k_ d=k_ (vJ d).1 (vJ d).2:=by
 have a:=pd (nS (20+(len d.Body)))
 have b:=pd d.Id
 have c:=pd 16384
 have e:=pd 0
 have f:=rp d.Src
 have h:=rp d.Dst
 unfold naE vJ
 refine pH (K:=fun r:Bytes×Bool=>k_ r.1 r.2) (fun _=>rfl) (fun hg=> ?_)
 refine pT (by simp only[gr,oZ,ss,List.length_append,tL,List.length_cons,List.length_nil,decide_eq_true_eq,true_and,and_true];omega) ?_
 have hz:=nvl d
 have g3:∀v,q_ (ipz d) 10 (oK v)=true:=fun v=>by
  have:=pd v
  simp only[q_,Bool.and_eq_true,decide_eq_true_eq];omega
 have g4:ss (ipz d)=true:=decide_eq_true (by omega)
 refine pT ?_ rfl
 rw[gr,gr]
 exact⟨⟨rfl,g4⟩,g3 _⟩
def ncK (k_:Bytes→Bool→α) (d:wS):α:=
 bif !((vJ d).2) then k_ [] false
 else bif Ei true (oZ ((vJ d).1) d.Body) then
   k_ (((vJ d).1)++d.Body) true
  else ke
def Wh (d:wS):Bytes×Bool:=bif !(vJ d).2 then ([],false) else ((vJ d).1++d.Body,true)
theorem ncJ (k_:Bytes→Bool→α) (d:wS):ncK ke k_ d=k_ (Wh d).1 (Wh d).2:=by
 unfold ncK Wh
 refine pH (K:=fun r:Bytes×Bool=>k_ r.1 r.2) (fun _=>rfl) (fun hg=> ?_)
 have h1:=nvT (nt0 (d:=d) (by simpa using hg))
 have h2:=ns8 d
 refine pT (by simp only[gr,oZ,ss,List.length_append,tL,List.length_cons,List.length_nil,decide_eq_true_eq,true_and,and_true];omega) rfl
def Z3 {α:Type} (k_:Bool→α) (e:sf):α:=
 k_ (bif nh e.Dst 0 281474976710655 then bif nh e.Src 0 281474976710655 then bif nh e.PJ (-1) 4095 then bif nh e.nsM 1536 65535 then bif e.nsM != 33024 then nh (len e.Body) 46 400 else false else false else false else false else false)
def nah (e:sf):Bool:=Z3 id e
theorem nim {α:Type} (k_:Bool→α) (e:sf):Z3 k_ e=k_ (nah e):=by
 rfl
theorem ngB (p:Nat→List DC→Bool):∀(l:Rows) (s:Nat),rh p l s=true↔∃i,i<l.length∧p (s+i) (nth l i)=true
 | [],s=>by simp [rh]
 | r::l,s=>by
  unfold rh
  cases hp:p s r
  ·simp only[cond_false,ngB p l (s+1)]
   constructor
   ·rintro ⟨i,h1,h2⟩
    refine⟨i+1,by simp;omega, ?_⟩
    rw[show s+(i+1)=s+1+i by omega]
    exact h2
   ·rintro ⟨i,h1,h2⟩
    cases i with
    | zero=>exfalso;rw[show nth (r::l) 0=r from rfl,Nat.add_zero,hp] at h2;cases h2
    | succ i=>
     refine⟨i,by simp only[List.length_cons] at h1;omega, ?_⟩
     rw[show s+1+i=s+(i+1) by omega]
     exact h2
  ·simp only[cond_true,true_iff]
   exact⟨0,by simp,hp⟩
theorem nsN {p:Nat→List DC→Bool} {l:Rows} {s:Nat} (h:rh p l s=false):∀i,i<l.length→p (s+i) (nth l i)=false:=by
 intro i hi
 cases hp:p (s+i) (nth l i)
 ·rfl
 ·rw[(ngB p l s).2 ⟨i,hi,hp⟩] at h
  cases h
theorem OJ (p:Nat→List DC→Bool):∀(l:Rows) (s:Nat),(findIdx p l s= -1∧∀i,i<l.length→p (s+i) (nth l i)=false)∨∃i,i<l.length∧findIdx p l s=((s+i:Nat):Int)∧p (s+i) (nth l i)=true
 | [],s=> .inl ⟨rfl,by simp⟩
 | r::l,s=>by
  unfold findIdx
  cases hp:p s r
  ·rcases OJ p l (s+1) with ⟨h1,h2⟩ | ⟨i,h1,h2,h3⟩
   ·refine .inl ⟨h1,fun i hi=> ?_⟩
    cases i with
    | zero=>exact hp
    | succ i=>
     rw[show s+(i+1)=s+1+i by omega]
     exact h2 i (by simp only[List.length_cons] at hi;omega)
   ·refine .inr ⟨i+1,by simp;omega, ?_, ?_⟩
    ·rw[cond_false,h2,show s+(i+1)=s+1+i by omega]
    ·rw[show s+(i+1)=s+1+i by omega]
     exact h3
  ·exact .inr ⟨0,by simp,rfl,hp⟩
theorem nj8 {x m:Int} (h0:0≤x) (hm:0<m):0≤Int.tmod x m∧Int.tmod x m<m:=⟨Int.tmod_nonneg _ h0,Int.tmod_lt_of_pos _ hm⟩
theorem nwX (l:Rows) (i j:Nat) (x:List DC) (hi:i<l.length):nth (l.set i x) j=if j=i then x else nth l j:=by
 simp only[nth,List.getD_eq_getElem?_getD]
 by_cases h:j=i
 ·subst h
  rw[List.getElem?_set_self hi,if_pos rfl]
  rfl
 ·rw[List.getElem?_set_ne (fun e=>h e.symm),if_neg h]
theorem nwo (a b:Bool):(bif a then b else false)=true↔a=true∧b=true:=by cases a<;>cases b<;>simp
theorem ntb {p:Nat→List DC→Bool} {l:Rows} (h:∀i,i<l.length→p i (nth l i)=false):rh p l 0=false:=by
 cases ha:rh p l 0
 ·rfl
 ·obtain⟨i,hi,h2⟩:=(ngB p l 0).1 ha
  rw[Nat.zero_add,h i hi] at h2
  cases h2
theorem nvi {p:Nat→Bool} :∀ {m i:Nat},yt p m i=false→∀j,i≤j→j<i+m→p j=false
 | 0,_,_,j,h1,h2=>by omega
 | m+1,i,h,j,h1,h2=>by
  rw[yt] at h
  cases hp:p i
  ·rw[hp] at h
   by_cases hj:j=i
   ·rw[hj];exact hp
   ·exact nvi h j (by omega) (by omega)
  ·rw[hp] at h;cases h
theorem no_ {p:Nat→List DC→Bool} :∀ {l:Rows} {s:Nat},rh p l s=false→∀r∈l,∃i,p i r=false
 | [],_,_,r,h=>by simp at h
 | x::xs,s,h,r,hr=>by
  simp only[rh] at h
  cases hp:p s x
  ·rw[hp] at h
   rcases List.mem_cons.1 hr with rfl | hr
   ·exact⟨s,hp⟩
   ·exact no_ h r hr
  ·rw[hp] at h
   cases h
theorem TZ {l:Rows} (h:pD l=true):len l≤96∧∀r∈l,xj r=false:=by
 unfold pD at h
 by_cases h9:96<len l
 ·simp [h9] at h
 ·refine⟨by omega,fun r hr=> ?_⟩
  simp only[decide_eq_false h9,cond_false] at h
  cases ha:rh (fun i r=>bif xj r then true else yt (fun j=>bif (rI (nth l j) 0)==(rI r 0) then (rI (nth l j) 1)==(rI r 1) else false) i 0) l 0
  ·obtain⟨i,hi⟩:=no_ ha r hr
   cases hb:xj r
   ·rfl
   ·rw[hb] at hi
    cases hi
  ·rw[ha] at h
   cases h
def pgs (l:Rows):Prop:=∀i,i<l.length→∃p:Bytes,nth l i=[.str p]∧p.length=128
theorem ntF {l:Rows} (hw:G9 (.sl [.str]) (.sl l)) (h:qb (⟨l⟩:nc)=true):pgs l∧l.length≤64:=by
 unfold qb at h
 cases ha:rh (fun _ r=>(len (rS r 0)) != 128) l 0
 ·rw[show rh (fun _ r=>(len (rS r 0)) != 128) (⟨l⟩:nc).nL 0=false from ha] at h
  have hl:len l≤64:=of_decide_eq_true h
  refine⟨fun i hi=> ?_,by simp only[len] at hl;omega⟩
  obtain⟨_,hw⟩:=oJ hw
  have h1:=ntH (hw (nth l i) (qi hi))
  have h2:=nsN ha i hi
  refine⟨rS (nth l i) 0,h1.symm, ?_⟩
  have h3:len (rS (nth l i) 0)=128:=by simpa using h2
  simp only[len] at h3
  omega
 ·rw[show rh (fun _ r=>(len (rS r 0)) != 128) (⟨l⟩:nc).nL 0=true from ha] at h
  cases h
theorem nxr {l:Rows} (h:pgs l) (hl:l.length≤64):qb (⟨l⟩:nc)=true:=by
 unfold qb
 rw[ntb (fun i hi=> ?_)]
 ·exact decide_eq_true (by simp only[len];omega)
 ·obtain⟨p,hp,h2⟩:=h i hi
  show (len (rS (nth l i) 0) != 128)=false
  rw[hp]
  show ((p.length:Int) != 128)=false
  rw[h2]
  rfl
theorem nwI (a b:Nat):Int.tdiv (a:Int) (b:Int)=((a / b:Nat):Int):=rfl
theorem nwJ (a b:Nat):Int.tmod (a:Int) (b:Int)=((a % b:Nat):Int):=rfl
theorem nj6 (a:Nat):Int.tdiv (a:Int) 128=((a / 128:Nat):Int):=nwI a 128
theorem nj7 (a:Nat):Int.tmod (a:Int) 128=((a % 128:Nat):Int):=nwJ a 128
def niF (k_:Int→α) (na:Rows) (domain address:Int) (write:Bool):α:=
 let z0:Int:=tq na domain (nS (Int.tdiv address 128))
 let z1:Bool:=decide (z0<0)
 let z2:Bool:=Ei true (idx z0 na)
 let z3:List DC:=nth na (Int.toNat z0)
 bif decide (address<0) then k_ (-1)
 else bif L1 z1 true (L1 write z2 true) then
   bif bif z1 then true else bif write then !(rB z3 3) else false then k_ (-1)
   else bif z2 then
     k_ (nS ((nS ((rI z3 2)*128))+(Int.tmod address 128)))
    else ke
  else ke
def nqJ (na:Rows) (domain address:Int):Int:=tq na domain (nS (Int.tdiv address 128))
def place (na:Rows) (domain address:Int) (write:Bool):Int:=
 bif decide (address<0) then -1
 else bif bif decide (nqJ na domain address<0) then true else bif write then !(rB (nth na (Int.toNat (nqJ na domain address))) 3) else false then -1
 else nS ((nS ((rI (nth na (Int.toNat (nqJ na domain address))) 2)*128))+(Int.tmod address 128))
theorem nqK (na:Rows) (domain address:Int):nqJ na domain address<0∨∃i:Nat,i<na.length∧nqJ na domain address=(i:Int)∧rI (nth na i) 0=domain:=by
 unfold nqJ tq
 rcases OJ (fun _ r=>bif (rI r 0)==domain then (rI r 1)==(nS (Int.tdiv address 128)) else false) na 0 with ⟨h,_⟩ | ⟨i,h1,h2,h3⟩
 ·exact .inl (by rw[h];decide)
 ·refine .inr ⟨i,h1,by rw[h2];simp, ?_⟩
  have:=(nwo _ _).1 h3
  simpa using this.1
theorem ntv (k_:Int→α) (na:Rows) (domain address:Int) (write:Bool) (pP:G9 (.sl [.i,.i,.i,.bool]) (.sl na)):niF ke k_ na domain address write=k_ (place na domain address write):=by
 obtain⟨hl,_⟩:=oJ pP
 unfold niF place
 refine Ka rfl ?_
 show (bif L1 (decide (nqJ na domain address<0)) true (L1 write (Ei true (idx (nqJ na domain address) na)) true) then _ else ke)=_
 rcases nqK na domain address with h | ⟨i,h1,h2,_⟩
 ·have e:decide (nqJ na domain address<0)=true:=decide_eq_true h
  have e2:∀x,L1 true true x=true:=fun x=>by cases x<;>rfl
  have e':decide (tq na domain (nS (Int.tdiv address 128))<0)=true:=e
  simp only[e,e',e2,cond_true]
 ·have hx:idx (nqJ na domain address) na=true:=by rw[h2];exact nY h1
  have Co:idx (tq na domain (nS (Int.tdiv address 128))) na=true:=hx
  simp only[hx,Co,ng,yK,cond_true]
  exact Ka rfl rfl
def XK {α:Type} (k_:Bool→α) (m:nc) (at_ n:Int):α:=
 let z0:Int:=nS ((len m.nL)*128)
 k_ (bif qb m then bif decide (0≤n) then bif decide (n≤z0) then bif decide (0≤at_) then decide (at_≤nS (z0 - n)) else false else false else false else false)
def within (m:nc) (at_ n:Int):Bool:=XK id m at_ n
theorem nr0 {α:Type} (k_:Bool→α) (m:nc) (at_ n:Int):XK k_ m at_ n=k_ (within m at_ n):=by
 rfl
def ZR {α:Type} (k_:Bool→α) (m:nc) (at_ n:Int):α:=
 let z0:Int:=nS (128*(len m.nL))
 k_ (bif qb m then bif decide (0≤n) then bif decide (0≤at_) then bif decide (at_≤z0) then decide (n≤nS (z0 - at_)) else false else false else false else false)
theorem nl1 {α:Type} (k_:Bool→α) (m:nc) (at_ n:Int) (T6:kc nc.ct m.enc) (OL:G9 .i (.int at_)) (h_n:G9 .i (.int n)):ZR k_ m at_ n=k_ (within m at_ n):=by
 have hn:=vn h_n
 have ha:=vn OL
 unfold ZR within XK
 refine congrArg k_ ?_
 show (bif qb m then _ else false)=(bif qb m then _ else false)
 cases hm:qb m
 ·rfl
 ·have Hi:=(ntF (nc.wR T6) hm).2
  have e1:nS (128*(len m.nL))=128*(m.nL.length:Int):=by simp only[len];exact nP (by omega) (by omega)
  have e2:nS ((len m.nL)*128)=128*(m.nL.length:Int):=by simp only[len];rw[nP (by omega) (by omega)];omega
  simp only[e1,e2,cond_true]
  rw[Bool.eq_iff_iff]
  simp only[nwo,decide_eq_true_eq]
  constructor
  ·rintro ⟨h1,h2,h3,h4⟩
   rw[nP (by omega) (by omega)] at h4
   refine⟨h1,by omega,h2, ?_⟩
   rw[nP (by omega) (by omega)]
   omega
  ·rintro ⟨h1,h2,h3,h4⟩
   rw[nP (by omega) (by omega)] at h4
   refine⟨h1,h3,by omega, ?_⟩
   rw[nP (by omega) (by omega)]
   omega
theorem V9 {l:Rows} {a n:Int} (hw:G9 (.sl [.str]) (.sl l)) (h:within (⟨l⟩:nc) a n=true):pgs l∧l.length≤64∧0≤n∧0≤a∧a+n≤128*l.length:=by
 have h0:(bif qb (⟨l⟩:nc) then bif decide (0≤n) then bif decide (n≤nS ((len l)*128)) then bif decide (0≤a) then decide (a≤nS (nS ((len l)*128) - n)) else false else false else false else false)=true:=h
 simp only[nwo,decide_eq_true_eq] at h0
 obtain⟨h1,h2,h3,h4,h5⟩:=h0
 obtain⟨p1,p2⟩:=ntF hw h1
 have e:nS ((len l)*128)=128*(l.length:Int):=by simp only[len];rw[nP (by omega) (by omega)];omega
 rw[e] at h3 h5
 rw[nP (by omega) (by omega)] at h5
 exact⟨p1,p2,h2,h4,by omega⟩
theorem nvQ {l:Rows} {a n:Nat} (hp:pgs l) (hl:l.length≤64) (h:a+n≤128*l.length):within (⟨l⟩:nc) (a:Int) (n:Int)=true:=by
 have e:nS ((len l)*128)=128*(l.length:Int):=by simp only[len];rw[nP (by omega) (by omega)];omega
 have h0:(bif qb (⟨l⟩:nc) then bif decide (0≤(n:Int)) then bif decide ((n:Int)≤nS ((len l)*128)) then bif decide (0≤(a:Int)) then decide ((a:Int)≤nS (nS ((len l)*128) - (n:Int))) else false else false else false else false)=true:=by
  simp only[nwo,decide_eq_true_eq]
  refine⟨nxr hp hl,by omega,by rw[e];omega,by omega, ?_⟩
  rw[e,nP (by omega) (by omega)]
  omega
 exact h0
def nad (p:Bytes) (k:Nat) (s:Bytes):Bytes:=p.take k++(s.take (128 - k)++p.drop (k+min s.length (128 - k)))
def Ro (l:Rows) (a:Nat) (s:Bytes):Rows:=l.set (a / 128) [.str (nad (rS (nth l (a / 128)) 0) (a % 128) s)]
def nl8:Nat→Nat→Bytes→Rows→Rows
 | 0,_,_,l=>l
 | m+1,a,s,l=>bif decide (0<s.length) then nl8 m (a+min s.length (128 - a % 128)) (s.drop (min s.length (128 - a % 128))) (Ro l a s) else l
theorem nve {p:Bytes} {k:Nat} {s:Bytes} (h:p.length=128) (hk:k≤128):(nad p k s).length=128:=by
 simp only[nad,List.length_append,List.length_take,List.length_drop]
 omega
theorem nhZ {l:Rows} {a:Nat} {s:Bytes} (h:pgs l) (ha:a / 128<l.length):pgs (Ro l a s)∧(Ro l a s).length=l.length:=by
 refine⟨fun i hi=> ?_,by simp [Ro]⟩
 unfold Ro at hi ⊢
 rw[List.length_set] at hi
 rw[nwX l (a / 128) i _ ha]
 by_cases he:i=a / 128
 ·rw[if_pos he]
  obtain⟨p,hp,h2⟩:=h (a / 128) ha
  refine⟨_,rfl, ?_⟩
  rw[hp]
  exact nve h2 (by omega)
 ·rw[if_neg he]
  exact h i hi
theorem nuw:∀(m a:Nat) (s:Bytes) (l:Rows),pgs l→a+s.length≤128*l.length→pgs (nl8 m a s l)∧(nl8 m a s l).length=l.length
 | 0,_,_,_,h,_=>⟨h,rfl⟩
 | m+1,a,s,l,h,ha=>by
  unfold nl8
  by_cases hs:0<s.length
  ·rw[decide_eq_true hs,cond_true]
   have h1:=nhZ (a:=a) (s:=s) h (by omega)
   have h2:=nuw m (a+min s.length (128 - a % 128)) (s.drop (min s.length (128 - a % 128))) (Ro l a s) h1.1 (by rw[h1.2,List.length_drop];omega)
   exact⟨h2.1,h2.2.trans h1.2⟩
  ·rw[decide_eq_false hs,cond_false]
   exact⟨h,rfl⟩
def uA (k_:nc→Bool→α) (oP:Int→Bytes→Rows→α) (rD:Int) (tR:Bytes) (og:Rows):α:=
 let z0:Bool:=Ei (Ei true (idx (nS (Int.tdiv rD 128)) og)) (inl (Int.toNat (nS (Int.tdiv rD 128))) og)
 let z1:List DC:=nth og (Int.toNat (nS (Int.tdiv rD 128)))
 let z2:Rows:=ofStr (rS z1 0)
 let z3:Int:=cpN tR z2 (Int.toNat (Int.tmod rD 128))
 bif decide (0<len tR) then
  bif z0 then
   bif Ei (Ei true ((QK z2 (Int.tmod rD 128)) && (decide (0<List.length z2)))) (decide (Int.toNat (Int.tmod rD 128)≤List.length z2)) then
    bif z0 then
     bif Ei true (QK tR z3) then
      oP (nS (rD+z3)) (tu tR z3) (List.set og (Int.toNat (nS (Int.tdiv rD 128))) (bT z1 0 [.str (toStr (cpR tR z2 (Int.toNat (Int.tmod rD 128))))]))
     else ke
    else ke
   else ke
  else ke
 else k_ (⟨og⟩:nc) true
def wm (k_:nc→Bool→α) (N m_:Nat):Int→Bytes→Rows→α:=
 Nat.rec (motive:=fun _=>Int→Bytes→Rows→α) (fun _ _ _=>ke) (fun _ oP=>uA ke k_ oP) m_
theorem PR (k_:nc→Bool→α) (N m_:Nat):wm ke k_ N (m_+1)=uA ke k_ (wm ke k_ N m_):=rfl
def N6 (k_:nc→Bool→α) (l0:Int→Bytes→Rows→α) (m:nc) (at_:Int) (s:Bytes):α:=
 bif Ei true (vW m) then
  bif !(within m at_ (len s)) then k_ (oD m) false
  else l0 at_ s ((oD m).nL)
 else ke
def Uu (k_:nc→Bool→α) (N:Nat) (m:nc) (at_:Int) (s:Bytes):α:=N6 ke k_ (wm ke k_ N N) m at_ s
def sr (m:nc) (at_:Int) (s:Bytes):Bool:=sm m.nL
def qA (m:nc) (at_:Int) (s:Bytes):nc×Bool:=bif !(within m at_ (len s)) then (m,false) else (⟨nl8 s.length at_.toNat s m.nL⟩,true)
theorem nsZ (a b:Rows):toStr (a++b)=toStr a++toStr b:=by simp [toStr]
theorem nu5 (s:Bytes) (n:Nat):(ofStr s).take n=ofStr (s.take n):=by simp [ofStr,List.map_take]
theorem nu4 (s:Bytes) (n:Nat):(ofStr s).drop n=ofStr (s.drop n):=by simp [ofStr,List.map_drop]
theorem nwr {p s:Bytes} {k:Nat} (h:p.length=128):toStr (cpR s (ofStr p) k)=nad p k s:=by
 unfold cpR nad
 rw[tP,h,nsZ,nsZ,nu5,nu4,Sf,Sf,Sf]
theorem ngS (k_:nc→Bool→α) (m:nc) (at_:Int) (s:Bytes) (T6:kc nc.ct m.enc) (aJ:sr m at_ s=true):∃N,Uu ke k_ N m at_ s=k_ (qA m at_ s).1 (qA m at_ s).2:=by
 have hp0:G9 (.sl [.str]) (.sl m.nL):=nc.wR T6
 have Ji:vW m=true:=aJ
 refine⟨s.length+1, ?_⟩
 unfold Uu N6 qA
 rw[show oD m=m from rfl]
 simp only[Ji,ng,cond_true]
 cases hw:within m at_ (len s)
 ·rfl
 ·obtain⟨p1,p2,p3,p4,p5⟩:=V9 hp0 hw
  obtain⟨a,rfl⟩:=Int.eq_ofNat_of_zero_le p4
  simp only[Bool.not_true,cond_false,Int.toNat_natCast]
  have key:∀(q n a:Nat) (s:Bytes) (l:Rows),s.length≤q→q<n→pgs l→l.length≤64→a+s.length≤128*l.length→wm ke k_ (s.length+1) n (a:Int) s l=k_ (⟨nl8 q a s l⟩:nc) true:=by
   intro q
   induction q with
   | zero=>
    intro n a s l h1 h2 h3 h4 h5
    obtain⟨n,rfl⟩:∃q,n=q+1:=⟨n - 1,by omega⟩
    have:s=[]:=List.length_eq_zero_iff.1 (by omega)
    subst this
    rw[PR]
    simp only[uA,show decide (0<len ([]:Bytes))=false by decide,cond_false,nl8]
   | succ q ih=>
    intro n a s l h1 h2 h3 h4 h5
    obtain⟨n,rfl⟩:∃q,n=q+1:=⟨n - 1,by omega⟩
    rw[PR]
    by_cases hs:0<s.length
    ·have hd:decide (0<len s)=true:=decide_eq_true (by simp only[len];omega)
     have hpg:a / 128<l.length:=by omega
     obtain⟨p,e1,e2⟩:=h3 (a / 128) hpg
     have w1:nS (((a / 128:Nat):Int))=((a / 128:Nat):Int):=nP (by omega) (by omega)
     have c1:cpN s (ofStr p) (a % 128)=((min s.length (128 - a % 128):Nat):Int):=by unfold cpN;rw[tP,e2]
     have w2:nS ((a:Int)+((min s.length (128 - a % 128):Nat):Int))=((a+min s.length (128 - a % 128):Nat):Int):=by rw[nP (by omega) (by omega)];omega
     have g1:QK (ofStr p) (((a % 128:Nat)):Int)=true:=by simp only[QK,tP,e2,Bool.and_eq_true,decide_eq_true_eq];omega
     have g2:decide (0<List.length (ofStr p))=true:=decide_eq_true (by rw[tP];omega)
     have g3:decide (a % 128≤List.length (ofStr p))=true:=decide_eq_true (by rw[tP];omega)
     have g4:QK s ((min s.length (128 - a % 128):Nat):Int)=true:=by simp only[QK,Bool.and_eq_true,decide_eq_true_eq];omega
     have g5:tu s ((min s.length (128 - a % 128):Nat):Int)=s.drop (min s.length (128 - a % 128)):=by simp [tu]
     have st:=nhZ (a:=a) (s:=s) h3 hpg
     have this:=ih n (a+min s.length (128 - a % 128)) (s.drop (min s.length (128 - a % 128))) (Ro l a s) (by rw[List.length_drop];omega) (by omega) st.1 (by rw[st.2];exact h4) (by rw[st.2,List.length_drop];omega)
     have e5:Ro l a s=l.set (a / 128) [.str (nad p (a % 128) s)]:=by unfold Ro;rw[e1];rfl
     unfold nl8
     rw[decide_eq_true hs,cond_true]
     rw[e5] at this ⊢
     simp only[uA,hd,nj6,nj7,w1,nY hpg,qC hpg,Int.toNat_natCast,e1,ndZ,c1,w2,g1,g2,g3,g4,g5,nwr e2,Rm,Bool.and_self,ng,nn,cond_true]
     exact this
    ·have:s=[]:=List.length_eq_zero_iff.1 (by omega)
     subst this
     simp only[uA,show decide (0<len ([]:Bytes))=false by decide,cond_false]
     rfl
  exact key s.length (s.length+1) a s m.nL (Nat.le_refl _) (by omega) p1 p2 (by simp only[len] at p5;omega)
theorem nrA {l:Rows} (h:pgs l) (hl:l.length≤64):G9 (.sl [.str]) (.sl l):=by
 simp only[G9]
 refine⟨l,rfl,by rw[neV];omega,fun r hr=> ?_⟩
 obtain⟨i,hi,rfl⟩:=List.getElem_of_mem hr
 obtain⟨p,hp,h2⟩:=h i hi
 have e:l[i]=nth l i:=by simp [nth,hi]
 rw[e,hp]
 exact nvg (by simp only[G9];exact⟨p,rfl,by rw[neV];omega⟩) ntZ
theorem nai {l:Rows} {a:Int} {s:Bytes} (h:pgs l) (hl:l.length≤64):pgs (qA (⟨l⟩:nc) a s).1.nL∧(qA (⟨l⟩:nc) a s).1.nL.length=l.length:=by
 unfold qA
 cases hw:within (⟨l⟩:nc) a (len s)
 ·exact⟨h,rfl⟩
 ·obtain⟨_,_,p3,p4,p5⟩:=V9 (nrA h hl) hw
  exact nuw s.length a.toNat s l h (by simp only[len] at p5;omega)
def T3 (Q:Nat→Prop):Rows→Nat→Prop
 | [],n=>n=0
 | r::rs,n=>∃p k:Nat,r=[.int (p:Int),.int (k:Int)]∧1≤k∧k≤n∧p % 128+k≤128∧Q (p / 128)∧T3 Q rs (n - k)
def nok (na:Rows) (domain:Int) (write:Bool) (nsV:Rows):Nat→Int→Int→Rows→Rows×Bool
 | 0,_,_,o=>(o,true)
 | m+1,a,n,o=>bif decide (0<n) then
   bif bif decide (place na domain a write<0) then true else !(within (⟨nsV⟩:nc) (place na domain a write) (xl n (nS (128 - Int.tmod a 128)))) then ([],false)
   else bif bif decide (nS (a+xl n (nS (128 - Int.tmod a 128)))<0) then decide (0<nS (n - xl n (nS (128 - Int.tmod a 128)))) else false then ([],false)
   else nok na domain write nsV m (nS (a+xl n (nS (128 - Int.tmod a 128)))) (nS (n - xl n (nS (128 - Int.tmod a 128)))) (o++[[.int (place na domain a write),.int (xl n (nS (128 - Int.tmod a 128)))]])
  else (o,true)
theorem nqI {a n:Int} (ha:0≤a) (hn:0<n) (h4:n≤4096):1≤xl n (nS (128 - Int.tmod a 128))∧xl n (nS (128 - Int.tmod a 128))≤n∧Int.tmod a 128+xl n (nS (128 - Int.tmod a 128))≤128∧nS (n - xl n (nS (128 - Int.tmod a 128)))=n - xl n (nS (128 - Int.tmod a 128)):=by
 have r:=nj8 (x:=a) (m:=128) ha (by omega)
 rw[nP (n:=128 - Int.tmod a 128) (by omega) (by omega)]
 unfold xl
 split
 ·refine⟨by omega,by omega,by omega,nP (by omega) (by omega)⟩
 ·refine⟨by omega,by omega,by omega,nP (by omega) (by omega)⟩
def rN (na:Rows) (m:nc) (domain at_ n:Int) (write:Bool):Rows×Bool:=
 bif bif !(pD na) then true else bif !(qb m) then true else !(nh n 0 4096) then ([],false)
 else bif n==0 then ([],true)
 else bif decide (at_<0) then ([],false)
 else nok na domain write m.nL (n.toNat+1) at_ n []
def O8 (k_:Rows→Bool→α) (na:Rows) (domain:Int) (write:Bool) (rz:Rows) (oP:Int→Int→Rows→α) (rD n_1:Int) (oh:Rows):α:=
 let z0:Int:=xl n_1 (nS (128 - (Int.tmod rD 128)))
 let z1:Int:=nS (rD+z0)
 let z2:Int:=nS (n_1 - z0)
 bif decide (0<n_1) then
  bif bif decide (place na domain rD write<0) then true else !(within (⟨rz⟩:nc) (place na domain rD write) z0) then k_ [] false
  else bif Ei true (pY 16 oh ([[.int (place na domain rD write),.int z0]])) then
    bif bif decide (z1<0) then decide (0<z2) else false then k_ [] false
    else oP z1 z2 (oh++([[.int (place na domain rD write),.int z0]]))
   else ke
 else k_ oh true
def O7 (k_:Rows→Bool→α) (N:Nat) (na:Rows) (domain:Int) (write:Bool) (rz:Rows) (m_:Nat):Int→Int→Rows→α:=
 Nat.rec (motive:=fun _=>Int→Int→Rows→α) (fun _ _ _=>ke) (fun _ oP=>O8 ke k_ na domain write rz oP) m_
theorem nkv (k_:Rows→Bool→α) (N:Nat) (na:Rows) (domain:Int) (write:Bool) (rz:Rows) (m_:Nat):O7 ke k_ N na domain write rz (m_+1)=O8 ke k_ na domain write rz (O7 ke k_ N na domain write rz m_):=rfl
def XF {α:Type} (ke:α) (k_:Rows→Bool→α) (l0:Rows→Int→Int→Rows→α) (na:Rows) (m:nc) (domain at_ n:Int) (write:Bool):α:=
 bif bif !(pD na) then true else bif !(qb m) then true else !(nh n 0 4096) then k_ [] false
 else bif n==0 then k_ [] true
 else bif decide (at_<0) then k_ [] false
 else l0 m.nL at_ n []
def nfW (k_:Rows→Bool→α) (N:Nat) (na:Rows) (m:nc) (domain at_ n:Int) (write:Bool):α:=XF ke k_ (fun rz=>O7 ke k_ N na domain write rz N) na m domain at_ n write
theorem nrV (k_:Rows→Bool→α) (na:Rows) (m:nc) (domain at_ n:Int) (write:Bool) (OL:G9 .i (.int at_)):∃N,nfW ke k_ N na m domain at_ n write=k_ (rN na m domain at_ n write).1 (rN na m domain at_ n write).2:=by
 refine⟨n.toNat+2, ?_⟩
 unfold nfW XF rN
 refine pH (K:=fun r:Rows×Bool=>k_ r.1 r.2) (fun _=>rfl) (fun hg=>pH (K:=fun r:Rows×Bool=>k_ r.1 r.2) (fun _=>rfl) (fun HB=>pH (K:=fun r:Rows×Bool=>k_ r.1 r.2) (fun _=>rfl) (fun ha=> ?_)))
 have hb:0≤n∧n≤4096:=by
  cases hc:nh n 0 4096
  ·rw[hc] at hg
   cases h1:pD na<;>cases h2:qb m<;>rw[h1,h2] at hg<;>cases hg
  ·exact pA.1 hc
 have ha:=of_decide_eq_false ha
 have F0:=vn OL
 have key:∀(q N':Nat) (a n:Int) (o:Rows),n<q→q≤N'→0≤n→n≤4096→a≤9223372036854775807→(0<n→0≤a)→o.length+n.toNat≤5000→∀M,O7 ke k_ M na domain write m.nL N' a n o=k_ (nok na domain write m.nL q a n o).1 (nok na domain write m.nL q a n o).2:=by
  intro q
  induction q with
  | zero=>intro N' a n o h1 h2 h3;omega
  | succ q ih=>
   intro N' a n o h1 h2 h3 h4 h7 h5 h6 M
   obtain⟨N',rfl⟩:∃p,N'=p+1:=⟨N' - 1,by omega⟩
   rw[nkv]
   by_cases hn:0<n
   ·obtain⟨r1,r2,r3,r4⟩:=nqI (h5 hn) hn h4
    have hr:∀x:List DC,pY 16 o [x]=true:=fun x=>wM (by simp only[List.length_cons,List.length_nil];omega) (by omega)
    unfold nok
    simp only[O8,decide_eq_true hn,hr,ng,cond_true]
    refine pH (K:=fun r:Rows×Bool=>k_ r.1 r.2) (fun _=>rfl) (fun _=>pH (K:=fun r:Rows×Bool=>k_ r.1 r.2) (fun _=>rfl) (fun hov=> ?_))
    rw[r4] at hov ⊢
    refine ih N' _ _ _ (by omega) (by omega) (by omega) (by omega) (ntS _) (fun hp=> ?_) (by simp only[List.length_append,List.length_cons,List.length_nil];omega) M
    rw[decide_eq_true hp] at hov
    have hov:decide (nS (a+xl n (nS (128 - Int.tmod a 128)))<0)=false:=by
     cases hd:decide (nS (a+xl n (nS (128 - Int.tmod a 128)))<0)
     ·rfl
     ·rw[hd] at hov;cases hov
    have:=of_decide_eq_false hov
    omega
   ·unfold nok
    simp only[O8,decide_eq_false hn,cond_false]
 exact key (n.toNat+1) (n.toNat+2) at_ n [] (by omega) (by omega) hb.1 hb.2 F0.2 (fun _=>by omega) (by simp only[List.length_nil];omega) _
theorem T3.len {Q:Nat→Prop} :∀ {l:Rows} {n:Nat},T3 Q l n→l.length≤n
 | [],_,_=>Nat.zero_le _
 | r::rs,n,⟨p,k,_,h1,h2,_,_,h3⟩=>by
  have:=h3.len
  simp only[List.length_cons]
  omega
theorem T3.imp {Q Q':Nat→Prop} (h:∀i,Q i→Q' i):∀ {l:Rows} {n:Nat},T3 Q l n→T3 Q' l n
 | [],_,h0=>h0
 | r::rs,n,⟨p,k,e,h1,h2,h3,h4,h5⟩=>⟨p,k,e,h1,h2,h3,h _ h4,h5.imp h⟩
theorem nug {na:Rows} (hM:pD na=true) {domain a:Int} {write:Bool} (ha:0≤a):place na domain a write<0∨∃i:Nat,i<na.length∧rI (nth na i) 0=domain∧0≤rI (nth na i) 2∧rI (nth na i) 2≤63∧
  place na domain a write=rI (nth na i) 2*128+Int.tmod a 128:=by
 unfold place
 rw[decide_eq_false (show ¬a<0 by omega),cond_false]
 rcases nqK na domain a with h | ⟨i,h1,h2,h3⟩
 ·rw[decide_eq_true h]
  exact .inl (show (-1:Int)<0 by decide)
 ·rw[h2,Int.toNat_natCast]
  cases (bif decide ((i:Int)<0) then true else bif write then !(rB (nth na i) 3) else false)
  ·have hb:=(TZ hM).2 (nth na i) (qi h1)
   have hp:nh (rI (nth na i) 2) 0 63=true:=by
    unfold xj at hb
    cases h4:nh (rI (nth na i) 2) 0 63
    ·rw[h4] at hb
     revert hb
     cases nh (rI (nth na i) 0) 0 7<;>cases nh (rI (nth na i) 1) 0 1023<;>simp
    ·rfl
   have hp:=pA.1 hp
   have r:=nj8 (x:=a) (m:=128) ha (by omega)
   refine .inr ⟨i,h1,h3,hp.1,hp.2, ?_⟩
   rw[cond_false,nP (n:=rI (nth na i) 2*128) (by omega) (by omega),nP (by omega) (by omega)]
  ·exact .inl (show (-1:Int)<0 by decide)
theorem nsX {na nsV:Rows} (hM:pD na=true) {domain:Int} {write:Bool} :∀(q:Nat) (a n:Int) (o:Rows),n<q→0≤n→n≤4096→(0<n→0≤a)→(nok na domain write nsV q a n o).2=true→
  ∃rs,(nok na domain write nsV q a n o).1=o++rs∧T3 (fun p=>∃i:Nat,i<na.length∧rI (nth na i) 0=domain∧rI (nth na i) 2=(p:Int)) rs n.toNat
 | 0,a,n,o,h1,h2,_,_,_=>by omega
 | q+1,a,n,o,h1,h2,h3,h4,h5=>by
  unfold nok at h5 ⊢
  by_cases hn:0<n
  ·rw[decide_eq_true hn,cond_true] at h5 ⊢
   have ha:=h4 hn
   obtain⟨r1,r2,r3,r4⟩:=nqI ha hn h3
   cases hc:(bif decide (place na domain a write<0) then true else !(within (⟨nsV⟩:nc) (place na domain a write) (xl n (nS (128 - Int.tmod a 128)))))
   ·rw[hc,cond_false] at h5
    rw[cond_false]
    cases hov:(bif decide (nS (a+xl n (nS (128 - Int.tmod a 128)))<0) then decide (0<nS (n - xl n (nS (128 - Int.tmod a 128)))) else false)
    ·rw[hov,cond_false] at h5
     rw[cond_false]
     rw[r4] at h5 hov ⊢
     obtain⟨rs,e1,e2⟩:=nsX hM q _ _ _ (by omega) (by omega) (by omega) (fun hp=>by
      rw[decide_eq_true hp] at hov
      have hov:decide (nS (a+xl n (nS (128 - Int.tmod a 128)))<0)=false:=by
       cases hd:decide (nS (a+xl n (nS (128 - Int.tmod a 128)))<0)
       ·rfl
       ·rw[hd] at hov;cases hov
      have:=of_decide_eq_false hov
      omega) h5
     refine⟨[.int (place na domain a write),.int (xl n (nS (128 - Int.tmod a 128)))]::rs,by rw[e1,List.append_assoc];rfl, ?_⟩
     rcases nug hM (domain:=domain) (write:=write) ha with ntp | ⟨i,i1,i2,i3,i4,i5⟩
     ·rw[decide_eq_true ntp] at hc
      cases hc
     ·have r:=nj8 (x:=a) (m:=128) ha (by omega)
      have hdiv:(place na domain a write).toNat / 128=(rI (nth na i) 2).toNat∧(place na domain a write).toNat % 128=(Int.tmod a 128).toNat:=by
       rw[i5]
       omega
      refine⟨(place na domain a write).toNat,(xl n (nS (128 - Int.tmod a 128))).toNat, ?_,by omega,by omega,by rw[hdiv.2];omega,⟨i,i1,i2,by rw[hdiv.1];omega⟩, ?_⟩
      ·rw[Int.toNat_of_nonneg (by rw[i5];omega),Int.toNat_of_nonneg (by omega)]
      ·have:(n - xl n (nS (128 - Int.tmod a 128))).toNat=n.toNat - (xl n (nS (128 - Int.tmod a 128))).toNat:=by omega
       rw[←this]
       exact e2
    ·rw[hov] at h5
     cases h5
   ·rw[hc] at h5
    cases h5
  ·rw[decide_eq_false hn,cond_false] at h5 ⊢
   refine⟨[],by simp, ?_⟩
   show n.toNat=0
   omega
theorem nwF {na:Rows} {m:nc} {domain at_ n:Int} {write:Bool} (hw:G9 (.sl [.str]) (.sl m.nL)) (h:(rN na m domain at_ n write).2=true):
  pgs m.nL∧m.nL.length≤64∧T3 (fun p=>∃i:Nat,i<na.length∧rI (nth na i) 0=domain∧rI (nth na i) 2=(p:Int)) (rN na m domain at_ n write).1 n.toNat∧n≤4096:=by
 unfold rN at h ⊢
 cases hM:pD na
 ·rw[hM] at h;cases h
 cases hm:qb m
 ·rw[hM,hm] at h;cases h
 cases hb:nh n 0 4096
 ·rw[hM,hm,hb] at h;cases h
 have hb:=pA.1 hb
 obtain⟨p1,p2⟩:=ntF hw hm
 rw[hM,hm,show nh n 0 4096=true from pA.2 hb] at h
 simp only[Bool.not_true,cond_false] at h ⊢
 refine⟨p1,p2, ?_,hb.2⟩
 by_cases h0:n=0
 ·subst h0
  exact rfl
 ·rw[show (n==0)=false by simpa using h0,cond_false] at h ⊢
  by_cases ha:at_<0
  ·rw[decide_eq_true ha] at h;cases h
  ·rw[decide_eq_false ha,cond_false] at h ⊢
   obtain⟨rs,e1,e2⟩:=nsX hM (n.toNat+1) at_ n [] (by omega) hb.1 hb.2 (fun _=>by omega) h
   rw[e1]
   exact e2
theorem Xm {na:Rows} {m:nc} {domain at_ n:Int} {write:Bool} (hw:G9 (.sl [.str]) (.sl m.nL)) (h:(rN na m domain at_ n write).2=true):
  pgs m.nL∧m.nL.length≤64∧T3 (fun _=>True) (rN na m domain at_ n write).1 n.toNat∧(rN na m domain at_ n write).1.length≤5000:=by
 obtain⟨a,b,c,d⟩:=nwF hw h
 have:=c.len
 exact⟨a,b,c.imp (fun _ _=>trivial),by omega⟩
def nsz:Rows→Bytes→Rows→Rows
 | [],_,l=>l
 | r::rs,s,l=>nsz rs (s.drop (Int.toNat (rI r 1))) (qA (⟨l⟩:nc) (rI r 0) (s.take (Int.toNat (rI r 1)))).1.nL
def WG (k_:nc→Bool→α) (x:Int) (oN:Rows) (oP:Bytes→Int→Rows→α) (tR:Bytes) (oy:Int) (og:Rows):α:=
 let z0:Bytes:=X1 tR (rI (nth oN (Int.toNat oy)) 1)
 bif decide (oy<x) then
  bif Ei (Ei true (idx oy oN)) (inl (Int.toNat oy) oN) then
   bif Ei (Ei true (okH tR (rI (nth oN (Int.toNat oy)) 1))) (sr (⟨og⟩:nc) (rI (nth oN (Int.toNat oy)) 0) z0) then
    bif Ei true (QK tR (rI (nth oN (Int.toNat oy)) 1)) then
     oP (tu tR (rI (nth oN (Int.toNat oy)) 1)) (nS (oy+1)) (((qA (⟨og⟩:nc) (rI (nth oN (Int.toNat oy)) 0) z0).1).nL)
    else ke
   else ke
  else ke
 else k_ (⟨og⟩:nc) true
def WE (k_:nc→Bool→α) (N:Nat) (x:Int) (oN:Rows) (m_:Nat):Bytes→Int→Rows→α:=
 Nat.rec (motive:=fun _=>Bytes→Int→Rows→α) (fun _ _ _=>ke) (fun _ oP=>WG ke k_ x oN oP) m_
theorem nfS (k_:nc→Bool→α) (N:Nat) (x:Int) (oN:Rows) (m_:Nat):WE ke k_ N x oN (m_+1)=WG ke k_ x oN (WE ke k_ N x oN m_):=rfl
def ng1 (k_:nc→Bool→α) (l0:Int→Rows→Bytes→Int→Rows→α) (na:Rows) (m:nc) (domain at_:Int) (s:Bytes) (write:Bool):α:=
 let z0:Rows×Bool:=rN na m domain at_ (len s) write
 bif Ei true (vW m) then
  bif !z0.2 then k_ (oD m) false
  else l0 (len z0.1) z0.1 s 0 ((oD m).nL)
 else ke
def npR (k_:nc→Bool→α) (N:Nat) (na:Rows) (m:nc) (domain at_:Int) (s:Bytes) (write:Bool):α:=ng1 ke k_ (fun x oN=>WE ke k_ N x oN N) na m domain at_ s write
def ntG (na:Rows) (m:nc) (domain at_:Int) (s:Bytes) (write:Bool):Bool:=sm m.nL
def put (na:Rows) (m:nc) (domain at_:Int) (s:Bytes) (write:Bool):nc×Bool:=
 bif !(rN na m domain at_ (len s) write).2 then (m,false) else (⟨nsz (rN na m domain at_ (len s) write).1 s m.nL⟩,true)
theorem nuZ (k_:nc→Bool→α) (na:Rows) (m:nc) (domain at_:Int) (s:Bytes) (write:Bool) (T6:kc nc.ct m.enc) (yZ:G9 .str (.str s)) (aJ:ntG na m domain at_ s write=true):∃N,npR ke k_ N na m domain at_ s write=k_ (put na m domain at_ s write).1 (put na m domain at_ s write).2:=by
 have hp0:G9 (.sl [.str]) (.sl m.nL):=nc.wR T6
 have Ji:vW m=true:=aJ
 have Mz:=yR yZ
 refine⟨(rN na m domain at_ (len s) write).1.length+1, ?_⟩
 unfold npR ng1 put
 rw[show oD m=m from rfl]
 simp only[Ji,ng,cond_true]
 cases hr:(rN na m domain at_ (len s) write).2
 ·rfl
 ·obtain⟨g1,g2,g3⟩:=Xm hp0 hr
  simp only[Bool.not_true,cond_false]
  generalize (rN na m domain at_ (len s) write).1=R at g3 ⊢
  have key:∀(q n i:Nat) (s:Bytes) (l:Rows),i+q=R.length→q<n→T3 (fun _=>True) (R.drop i) s.length→pgs l→l.length≤64→R.length≤5000→
    WE ke k_ (R.length+1) (len R) R n s (i:Int) l=k_ (⟨nsz (R.drop i) s l⟩:nc) true:=by
   intro q
   induction q with
   | zero=>
    intro n i s l h1 h2 h3 h4 h5 h6
    obtain⟨n,rfl⟩:∃q,n=q+1:=⟨n - 1,by omega⟩
    rw[nfS,List.drop_eq_nil_of_le (by omega)]
    have hf:decide ((i:Int)<len R)=false:=decide_eq_false (by simp only[len];omega)
    simp only[WG,hf,cond_false,nsz]
   | succ q ih=>
    intro n i s l h1 h2 h3 h4 h5 h6
    obtain⟨n,rfl⟩:∃q,n=q+1:=⟨n - 1,by omega⟩
    have hi:i<R.length:=by omega
    have e0:R[i]=nth R i:=by simp [nth,hi]
    rw[List.drop_eq_getElem_cons hi,e0] at h3 ⊢
    obtain⟨p,k,e1,k1,k2,k3,_,k4⟩:=h3
    rw[nfS]
    have w1:nS ((i:Int)+1)=((i+1:Nat):Int):=by rw[nP (by omega) (by omega)];omega
    have x1:okH s (k:Int)=true:=by simp only[okH,Bool.and_eq_true,decide_eq_true_eq];omega
    have x2:QK s (k:Int)=true:=by simp only[QK,Bool.and_eq_true,decide_eq_true_eq];omega
    have x3:X1 s (k:Int)=s.take k:=by simp [X1]
    have x4:tu s (k:Int)=s.drop k:=by simp [tu]
    have x5:∀a b,sr (⟨l⟩:nc) a b=true:=fun a b=>by
     unfold sr sm
     exact decide_eq_true (by show l.length≤16777216;omega)
    have r1:rI [DC.int (p:Int),DC.int (k:Int)] 0=(p:Int):=rfl
    have r2:rI [DC.int (p:Int),DC.int (k:Int)] 1=(k:Int):=rfl
    have wp:=nai (a:=(p:Int)) (s:=s.take k) h4 h5
    have this:=ih n (i+1) (s.drop k) (qA (⟨l⟩:nc) (p:Int) (s.take k)).1.nL (by omega) (by omega) (by rw[List.length_drop];exact k4) wp.1 (by rw[wp.2];exact h5) h6
    simp only[WG,pw hi,nY hi,qC hi,Int.toNat_natCast,e1,r1,r2,x1,x2,x3,x4,x5,w1,ng,nn,cond_true,nsz]
    exact this
  exact key R.length (R.length+1) 0 s m.nL (by omega) (by omega) (by have h:=g3.1;rw[show (len s).toNat=s.length by simp [len]] at h;exact h) g1 g2 g3.2
def nap (k_:nc→Bool→α) (na:Rows) (m:nc) (domain at_:Int) (s:Bytes):α:=
 let z0:nc×Bool:=put na m domain at_ s true
 bif Ei true (ntG na m domain at_ s true) then
  k_ z0.1 z0.2
 else ke
def wU (na:Rows) (m:nc) (domain at_:Int) (s:Bytes):Bool:=sm m.nL
def tS (na:Rows) (m:nc) (domain at_:Int) (s:Bytes):nc×Bool:=put na m domain at_ s true
theorem nmA (k_:nc→Bool→α) (na:Rows) (m:nc) (domain at_:Int) (s:Bytes) (aJ:wU na m domain at_ s=true):nap ke k_ na m domain at_ s=k_ (tS na m domain at_ s).1 (tS na m domain at_ s).2:=by
 have h:ntG na m domain at_ s true=true:=aJ
 unfold nap tS
 simp only[h,ng,cond_true]
theorem nmw {l:Rows} (hp:pgs l) (hl:l.length≤64) {a n:Int} :within (⟨l⟩:nc) a n=true↔0≤n∧0≤a∧a+n≤128*l.length:=by
 constructor
 ·intro h
  obtain⟨_,_,h1,h2,h3⟩:=V9 (nrA hp hl) h
  exact⟨h1,h2,h3⟩
 ·rintro ⟨h1,h2,h3⟩
  obtain⟨n,rfl⟩:=Int.eq_ofNat_of_zero_le h1
  obtain⟨a,rfl⟩:=Int.eq_ofNat_of_zero_le h2
  exact nvQ hp hl (by omega)
theorem nuv {l:Rows} (hp:pgs l) (hl:l.length≤64) {p o k:Int} (h0:0≤p) (o0:0≤o) (k1:1≤k) (hk:o+k≤128):within (⟨l⟩:nc) (p*128+o) k=within (⟨l⟩:nc) (p*128) 128:=by
 rw[Bool.eq_iff_iff,nmw hp hl,nmw hp hl]
 omega
def nu3 (domain pc:Int) (write:Bool) (r:List DC):Bool:=bif (rI r 0)==domain then bif (rI r 1)==pc then bif rB r 3 then true else !write else false else false
def nvn (na:Rows) (domain pc:Int) (write:Bool):Int:=findIdx (fun _ r=>nu3 domain pc write r) na 0
def NT (k_:Int→α) (na:Rows) (domain pc:Int) (write:Bool) (oP:Int→α) (k:Int):α:=
 let z0:Bool:=(rI (nth na (Int.toNat k)) 0)==domain
 let z1:Bool:=(rI (nth na (Int.toNat k)) 1)==pc
 let z2:Bool:=Ei (Ei true (idx k na)) (idx k na)
 let z3:Bool:=Ei z2 (idx k na)
 bif decide (k<len na) then
  bif L1 z0 (L1 z1 (L1 (rB (nth na (Int.toNat k)) 3) z3 z3) z2) (Ei true (idx k na)) then
   bif bif z0 then bif z1 then bif rB (nth na (Int.toNat k)) 3 then true else !write else false else false then
    bif Ei true (idx k na) then
     k_ (rI (nth na (Int.toNat k)) 2)
    else ke
   else oP (nS (k+1))
  else ke
 else k_ (-1)
def NS (k_:Int→α) (N:Nat) (na:Rows) (domain pc:Int) (write:Bool) (m_:Nat):Int→α:=
 Nat.rec (motive:=fun _=>Int→α) (fun _=>ke) (fun _ oP=>NT ke k_ na domain pc write oP) m_
theorem Xz (k_:Int→α) (N:Nat) (na:Rows) (domain pc:Int) (write:Bool) (m_:Nat):NS ke k_ N na domain pc write (m_+1)=NT ke k_ na domain pc write (NS ke k_ N na domain pc write m_):=rfl
def V3 {α:Type} (ke:α) (k_ l0:Int→α) (na:Rows) (domain pc:Int) (write:Bool):α:=
 l0 0
def neu (k_:Int→α) (N:Nat) (na:Rows) (domain pc:Int) (write:Bool):α:=V3 ke k_ (NS ke k_ N na domain pc write N) na domain pc write
def wv (na:Rows) (domain pc:Int) (write:Bool):Int:=bif decide (nvn na domain pc write<0) then -1 else rI (nth na (Int.toNat (nvn na domain pc write))) 2
theorem nrk (k_:Int→α) (na:Rows) (domain pc:Int) (write:Bool) (pP:G9 (.sl [.i,.i,.i,.bool]) (.sl na)):∃N,neu ke k_ N na domain pc write=k_ (wv na domain pc write):=by
 obtain⟨hl,_⟩:=oJ pP
 refine⟨na.length+1, ?_⟩
 unfold neu V3 wv
 refine (rb na (NS ke k_ (na.length+1) na domain pc write) (fun i r c=>bif nu3 domain pc write r then k_ (bif decide ((i:Int)<0) then -1 else rI (nth na (Int.toNat (i:Int))) 2) else c) (k_ (-1)) ?_ ?_).trans ?_
 ·intro n i h
  rw[Xz]
  have h0:decide ((i:Int)<0)=false:=decide_eq_false (by omega)
  simp only[NT,pw h,nY h,oO h hl,Int.toNat_natCast,ng,nn,yK,cond_true,h0,cond_false]
  rfl
 ·intro n
  rw[Xz]
  simp only[NT,nX,cond_false]
 ·exact Qb (fun _ r=>nu3 domain pc write r) (fun x=>k_ (bif decide (x<0) then -1 else rI (nth na (Int.toNat x)) 2)) na 0
theorem no5 {l:Rows} (h:pD l=true) {i j:Nat} (hi:i<l.length) (hj:j<l.length) (h0:rI (nth l i) 0=rI (nth l j) 0) (h1:rI (nth l i) 1=rI (nth l j) 1):i=j:=by
 have key:∀i j:Nat,i<l.length→j<i→rI (nth l j) 0=rI (nth l i) 0→rI (nth l j) 1=rI (nth l i) 1→False:=by
  intro i j hi hj h0 h1
  unfold pD at h
  by_cases h9:96<len l
  ·simp [h9] at h
  simp only[decide_eq_false h9,cond_false] at h
  cases ha:rh (fun i r=>bif xj r then true else yt (fun j=>bif (rI (nth l j) 0)==(rI r 0) then (rI (nth l j) 1)==(rI r 1) else false) i 0) l 0
  ·have h2:=nsN ha i hi
   rw[Nat.zero_add] at h2
   cases hb:xj (nth l i)
   ·rw[hb,cond_false] at h2
    have h3:=nvi h2 j (Nat.zero_le _) (by omega)
    rw[h0,h1] at h3
    simp at h3
   ·rw[hb] at h2
    cases h2
  ·rw[ha] at h
   cases h
 rcases Nat.lt_trichotomy i j with h2 | h2 | h2
 ·exact (key j i hj h2 h0 h1).elim
 ·exact h2
 ·exact (key i j hi h2 h0.symm h1.symm).elim
theorem nvI {l:Rows} (hM:pD l=true) {d a:Int} {w:Bool} (ha:0≤a):place l d a w=bif decide (wv l d (nS (Int.tdiv a 128)) w<0) then -1 else nS (nS (wv l d (nS (Int.tdiv a 128)) w*128)+Int.tmod a 128):=by
 unfold place
 rw[decide_eq_false (show ¬a<0 by omega),cond_false]
 have hT:∀r,nu3 d (nS (Int.tdiv a 128)) w r=true↔(rI r 0=d∧rI r 1=nS (Int.tdiv a 128))∧(rB r 3=true∨w=false):=by
  intro r
  unfold nu3
  by_cases h0:rI r 0=d
  ·by_cases h1:rI r 1=nS (Int.tdiv a 128)
   ·cases rB r 3<;>cases w<;>simp [h0,h1]
   ·simp [h0,h1]
  ·simp [h0]
 have ip:∀i,0≤rI (nth l i) 2∨¬i<l.length:=by
  intro i
  by_cases hi:i<l.length
  ·have hb:=(TZ hM).2 (nth l i) (qi hi)
   unfold xj at hb
   cases h4:nh (rI (nth l i) 2) 0 63
   ·rw[h4] at hb
    revert hb
    cases nh (rI (nth l i) 0) 0 7<;>cases nh (rI (nth l i) 1) 0 1023<;>simp
   ·exact .inl (pA.1 h4).1
  ·exact .inr hi
 have hq:=OJ (fun _ r=>nu3 d (nS (Int.tdiv a 128)) w r) l 0
 have hp:=OJ (fun _ r=>bif (rI r 0)==d then (rI r 1)==(nS (Int.tdiv a 128)) else false) l 0
 have e1:nqJ l d a=findIdx (fun _ r=>bif (rI r 0)==d then (rI r 1)==(nS (Int.tdiv a 128)) else false) l 0:=rfl
 unfold wv nvn
 rw[e1]
 rcases hp with ⟨p1,p2⟩ | ⟨i,i1,i2,i3⟩
 ·rw[p1]
  rcases hq with ⟨q1,_⟩ | ⟨j,j1,_,j3⟩
  ·rw[q1];rfl
  ·have h2:=p2 j j1
   have h3:=((hT _).1 j3).1
   simp [h3.1,h3.2] at h2
 ·rw[i2]
  have hi3:rI (nth l i) 0=d∧rI (nth l i) 1=nS (Int.tdiv a 128):=by simpa [nwo] using i3
  simp only[Nat.zero_add,Int.toNat_natCast,decide_eq_false (show ¬((i:Int)<0) by omega),cond_false]
  rcases hq with ⟨q1,q2⟩ | ⟨j,j1,j2,j3⟩
  ·rw[q1]
   have h2:=q2 i i1
   have h3:¬(rB (nth l i) 3=true∨w=false):=fun h=>by
    rw[(hT _).2 ⟨hi3,h⟩] at h2
    cases h2
   rw[not_or] at h3
   cases w
   ·exact absurd rfl h3.2
   ·simp only[h3.1,cond_true,Bool.not_eq_true _ ▸ (by simpa using h3.1:rB (nth l i) 3=false),Bool.not_false]
    rfl
  ·have h3:=(hT _).1 j3
   have hij:i=j:=no5 hM i1 j1 (hi3.1.trans h3.1.1.symm) (hi3.2.trans h3.1.2.symm)
   subst hij
   rw[j2]
   simp only[Nat.zero_add,Int.toNat_natCast,decide_eq_false (show ¬((i:Int)<0) by omega),cond_false]
   have hn:=(ip i).resolve_right (by omega)
   rw[decide_eq_false (show ¬rI (nth l i) 2<0 by omega),cond_false]
   have hc:(bif w then !(rB (nth l i) 3) else false)=false:=by
    rcases h3.2 with h4 | h4
    ·rw[h4];cases w<;>rfl
    ·rw[h4];rfl
   rw[hc,cond_false]
theorem nwV {l:Rows} (hM:pD l=true) (d v:Int) (w:Bool):wv l d v w= -1∨(0≤wv l d v w∧wv l d v w≤63):=by
 unfold wv nvn
 rcases OJ (fun _ r=>nu3 d v w r) l 0 with ⟨q1,_⟩ | ⟨j,j1,j2,j3⟩
 ·rw[q1];exact .inl rfl
 ·rw[j2]
  simp only[Nat.zero_add,Int.toNat_natCast,decide_eq_false (show ¬((j:Int)<0) by omega),cond_false]
  have hb:=(TZ hM).2 (nth l j) (qi j1)
  unfold xj at hb
  cases h4:nh (rI (nth l j) 2) 0 63
  ·rw[h4] at hb
   revert hb
   cases nh (rI (nth l j) 0) 0 7<;>cases nh (rI (nth l j) 1) 0 1023<;>simp
  ·exact .inr (pA.1 h4)
def pF0 (r:List DC):List DC:=[.int (rI r 0)]
def pF1 (r:List DC):List DC:=[.int (rI r 1)]
theorem ntC (f:List DC→List DC) {l:Rows} {i:Nat} (h:i<l.length):nth (l.map f) i=f (nth l i):=by
 simp [nth,List.getD_eq_getElem?_getD,h]
def wQ (k_:Rows→Rows→Bool→α) (na:Rows) (domain:Int) (write:Bool) (rz:Rows) (oP:Int→Int→Rows→Rows→α) (rD n_1:Int) (starts p8:Rows):α:=
 let z0:Int:=bif decide (0≤rD) then wv na domain (nS (Int.tdiv rD 128)) write else (-1)
 let z1:Int:=xl n_1 (nS (128 - (Int.tmod rD 128)))
 bif decide (0<n_1) then
  bif bif decide (z0<0) then true else !(within (⟨rz⟩:nc) (nS (z0*128)) 128) then k_ [] [] false
  else bif Ei true (pY 8 starts ([[.int (nS ((nS (z0*128))+(Int.tmod rD 128)))]])) then
    bif Ei true (pY 8 p8 ([[.int z1]])) then
     oP (nS (rD+z1)) (nS (n_1 - z1)) (starts++([[.int (nS ((nS (z0*128))+(Int.tmod rD 128)))]])) (p8++([[.int z1]]))
    else ke
   else ke
 else k_ starts p8 true
def zJ (k_:Rows→Rows→Bool→α) (N:Nat) (na:Rows) (domain:Int) (write:Bool) (rz:Rows) (m_:Nat):Int→Int→Rows→Rows→α:=
 Nat.rec (motive:=fun _=>Int→Int→Rows→Rows→α) (fun _ _ _ _=>ke) (fun _ oP=>wQ ke k_ na domain write rz oP) m_
theorem nhX (k_:Rows→Rows→Bool→α) (N:Nat) (na:Rows) (domain:Int) (write:Bool) (rz:Rows) (m_:Nat):zJ ke k_ N na domain write rz (m_+1)=wQ ke k_ na domain write rz (zJ ke k_ N na domain write rz m_):=rfl
def SW {α:Type} (ke:α) (k_:Rows→Rows→Bool→α) (l0:Rows→Int→Int→Rows→Rows→α) (na:Rows) (m:nc) (domain at_ n:Int) (write:Bool):α:=
 bif bif !(pD na) then true else bif !(qb m) then true else !(nh n 0 4096) then k_ [] [] false
 else l0 m.nL at_ n [] []
def ncm (k_:Rows→Rows→Bool→α) (N:Nat) (na:Rows) (m:nc) (domain at_ n:Int) (write:Bool):α:=SW ke k_ (fun rz=>zJ ke k_ N na domain write rz N) na m domain at_ n write
def yF (na:Rows) (m:nc) (domain at_ n:Int) (write:Bool):Rows×Rows×Bool:=
 ((rN na m domain at_ n write).1.map pF0,(rN na m domain at_ n write).1.map pF1,(rN na m domain at_ n write).2)
theorem noQ (k_:Rows→Rows→Bool→α) (na:Rows) (m:nc) (domain at_ n:Int) (write:Bool) (T6:kc nc.ct m.enc) (OL:G9 .i (.int at_)):∃N,ncm ke k_ N na m domain at_ n write=k_ (yF na m domain at_ n write).1 (yF na m domain at_ n write).2.1 (yF na m domain at_ n write).2.2:=by
 have hp0:G9 (.sl [.str]) (.sl m.nL):=nc.wR T6
 have F0:=vn OL
 refine⟨n.toNat+2, ?_⟩
 unfold ncm SW yF rN
 refine pH (K:=fun r:Rows×Bool=>k_ (r.1.map pF0) (r.1.map pF1) r.2) (fun _=>rfl) (fun hg=> ?_)
 have hM:pD na=true:=by
  cases hM:pD na
  ·rw[hM] at hg;cases hg
  ·rfl
 have hm:qb m=true:=by
  cases hm:qb m
  ·rw[hM,hm] at hg;cases hg
  ·rfl
 have hb:0≤n∧n≤4096:=by
  cases hc:nh n 0 4096
  ·rw[hM,hm,hc] at hg;cases hg
  ·exact pA.1 hc
 obtain⟨p1,p2⟩:=ntF hp0 hm
 have key:∀(q N':Nat) (a n:Int) (o:Rows),n<q→q≤N'→0≤n→n≤4096→a≤9223372036854775807→o.length+n.toNat≤5000→∀M,zJ ke k_ M na domain write m.nL N' a n (o.map pF0) (o.map pF1)=
   (fun r:Rows×Bool=>k_ (r.1.map pF0) (r.1.map pF1) r.2) (bif bif decide (a<0) then decide (0<n) else false then ([],false) else nok na domain write m.nL q a n o):=by
  intro q
  induction q with
  | zero=>intro N' a n o h1 h2 h3;omega
  | succ q ih=>
   intro N' a n o h1 h2 h3 h4 h7 h6 M
   obtain⟨N',rfl⟩:∃p,N'=p+1:=⟨N' - 1,by omega⟩
   rw[nhX]
   by_cases hn:0<n
   ·by_cases ha:a<0
    ·simp only[wQ,decide_eq_true hn,decide_eq_true ha,decide_eq_false (show ¬0≤a by omega),cond_true,cond_false,show decide ((-1:Int)<0)=true from rfl]
     rfl
    ·obtain⟨r1,r2,r3,r4⟩:=nqI (show 0≤a by omega) hn h4
     have tm:=nj8 (x:=a) (m:=128) (by omega) (by omega)
     have hr:∀(l:Rows) (x:List DC),l.length≤5000→pY 8 l [x]=true:=fun l x hl=>wM (by simp only[List.length_cons,List.length_nil];omega) (by omega)
     have hlp:=nvI (d:=domain) (w:=write) hM (show 0≤a by omega)
     have fB:(bif decide (wv na domain (nS (Int.tdiv a 128)) write<0) then true else !(within m (nS (wv na domain (nS (Int.tdiv a 128)) write*128)) 128))=
       (bif decide (place na domain a write<0) then true else !(within m (place na domain a write) (xl n (nS (128 - Int.tmod a 128))))):=by
      rw[hlp]
      rcases nwV hM domain (nS (Int.tdiv a 128)) write with h8 | ⟨h8,h9⟩
      ·rw[h8];rfl
      ·generalize wv na domain (nS (Int.tdiv a 128)) write=P at h8 h9 ⊢
       rw[decide_eq_false (show ¬P<0 by omega),cond_false,cond_false,nP (n:=P*128) (by omega) (by omega),nP (n:=P*128+Int.tmod a 128) (by omega) (by omega),
        decide_eq_false (show ¬P*128+Int.tmod a 128<0 by omega),cond_false]
       rw[show within m (P*128+Int.tmod a 128) (xl n (nS (128 - Int.tmod a 128)))=within m (P*128) 128 from nuv p1 p2 h8 tm.1 r1 (by omega)]
     have hlen:∀f:List DC→List DC,(o.map f).length≤5000:=fun f=>by rw[List.length_map];omega
     unfold nok
     simp only[wQ,decide_eq_true hn,decide_eq_false ha,decide_eq_true (show 0≤a by omega),cond_true,cond_false,hr _ _ (hlen _),ng]
     have hM1:(⟨m.nL⟩:nc)=m:=rfl
     rw[hM1,fB]
     refine pH (K:=fun r:Rows×Bool=>k_ (r.1.map pF0) (r.1.map pF1) r.2) (fun _=>rfl) (fun hc=> ?_)
     have La:place na domain a write=nS (nS (wv na domain (nS (Int.tdiv a 128)) write*128)+Int.tmod a 128):=by
      rw[hlp]
      cases hd:decide (wv na domain (nS (Int.tdiv a 128)) write<0)
      ·rfl
      ·rw[hlp,hd] at hc
       cases hc
     rw[←La,r4]
     have e0:o.map pF0++[[DC.int (place na domain a write)]]=(o++[[DC.int (place na domain a write),DC.int (xl n (nS (128 - Int.tmod a 128)))]]).map pF0:=by rw[List.map_append];rfl
     have e1:o.map pF1++[[DC.int (xl n (nS (128 - Int.tmod a 128)))]]=(o++[[DC.int (place na domain a write),DC.int (xl n (nS (128 - Int.tmod a 128)))]]).map pF1:=by rw[List.map_append];rfl
     rw[e0,e1]
     exact ih N' _ _ _ (by omega) (by omega) (by omega) (by omega) (ntS _) (by simp only[List.length_append,List.length_cons,List.length_nil];omega) M
   ·have hz:(bif decide (a<0) then decide (0<n) else false)=false:=by rw[decide_eq_false hn];cases decide (a<0)<;>rfl
    rw[hz]
    unfold nok
    simp only[wQ,decide_eq_false hn,cond_false]
 refine (key (n.toNat+1) (n.toNat+2) at_ n [] (by omega) (by omega) hb.1 hb.2 F0.2 (by simp only[List.length_nil];omega) _).trans ?_
 congr 1
 by_cases h0:n=0
 ·subst h0
  cases decide (at_<0)<;>rfl
 ·rw[show (n==0)=false by simpa using h0,cond_false,decide_eq_true (show 0<n by omega)]
  cases decide (at_<0)<;>rfl
def Oi (l:Rows) (a n:Nat):Bytes:=((rS (nth l (a / 128)) 0).drop (a % 128)).take (min n (128 - a % 128))
def nlM:Nat→Nat→Nat→Rows→Bytes
 | 0,_,_,_=>[]
 | m+1,a,n,l=>bif decide (0<n) then Oi l a n++nlM m (a+min n (128 - a % 128)) (n - min n (128 - a % 128)) l else []
def qW (m:nc) (at_ n:Int):Bytes×Bool:=bif !(within m at_ n) then ([],false) else (nlM n.toNat at_.toNat n.toNat m.nL,true)
theorem nhB {l:Rows} (hp:pgs l) {a n:Nat} (h:a / 128<l.length):(Oi l a n).length=min n (128 - a % 128):=by
 obtain⟨p,e1,e2⟩:=hp (a / 128) h
 unfold Oi
 rw[e1,ndZ,List.length_take,List.length_drop,e2]
 omega
theorem nui:∀(q a n:Nat) (l:Rows),n≤q→pgs l→a+n≤128*l.length→(nlM q a n l).length=n
 | 0,a,n,l,h1,_,_=>by simp only[nlM,List.length_nil];omega
 | q+1,a,n,l,h1,hp,h2=>by
  unfold nlM
  by_cases hn:0<n
  ·rw[decide_eq_true hn,cond_true,List.length_append,nhB hp (by omega),nui q _ _ l (by omega) hp (by omega)]
   omega
  ·rw[decide_eq_false hn,cond_false]
   simp only[List.length_nil];omega
theorem OE {m:nc} {a n:Int} (hw:G9 (.sl [.str]) (.sl m.nL)):(qW m a n).1.length≤8192∧(qW m a n).1.length≤n.toNat:=by
 unfold qW
 cases h:within m a n
 ·exact⟨Nat.zero_le _,Nat.zero_le _⟩
 ·obtain⟨p1,p2,p3,p4,p5⟩:=V9 hw h
  simp only[Bool.not_true,cond_false]
  rw[nui _ _ _ _ (Nat.le_refl _) p1 (by omega)]
  omega
def uZ (k_:Bytes→Bool→α) (n:Int) (rz:Rows) (oP:Int→Rows→α) (rD:Int) (oh:Rows):α:=
 let z0:Int:=xl 128 (nS ((nS ((Int.tmod rD 128)+n)) - (len oh)))
 let z1:Bytes:=nmv (rS (nth rz (Int.toNat (nS (Int.tdiv rD 128)))) 0) (Int.tmod rD 128) z0
 bif decide (len oh<n) then
  bif Ei true (idx (nS (Int.tdiv rD 128)) rz) then
   bif Ei true (ntD (rS (nth rz (Int.toNat (nS (Int.tdiv rD 128)))) 0) (Int.tmod rD 128) z0) then
    bif Ei true (decide ((List.length oh+List.length z1)*1≤140737488355328) && decide (List.length oh+List.length z1≤9223372036854775807)) then
     oP (nS (rD+(len z1))) (oh++(ofStr z1))
    else ke
   else ke
  else ke
 else k_ (toStr oh) true
def w7 (k_:Bytes→Bool→α) (N:Nat) (n:Int) (rz:Rows) (m_:Nat):Int→Rows→α:=
 Nat.rec (motive:=fun _=>Int→Rows→α) (fun _ _=>ke) (fun _ oP=>uZ ke k_ n rz oP) m_
theorem RX (k_:Bytes→Bool→α) (N:Nat) (n:Int) (rz:Rows) (m_:Nat):w7 ke k_ N n rz (m_+1)=uZ ke k_ n rz (w7 ke k_ N n rz m_):=rfl
def O1 (k_:Bytes→Bool→α) (l0:Rows→Int→Rows→α) (m:nc) (at_ n:Int):α:=
 bif !(within m at_ n) then k_ [] false
 else bif Ei true (Po 1 0 n) then
   l0 m.nL at_ (List.replicate 0 ([.int 0]:List DC))
  else ke
def Ww (k_:Bytes→Bool→α) (N:Nat) (m:nc) (at_ n:Int):α:=O1 ke k_ (fun rz=>w7 ke k_ N n rz N) m at_ n
theorem nis (k_:Bytes→Bool→α) (m:nc) (at_ n:Int) (T6:kc nc.ct m.enc):∃N,Ww ke k_ N m at_ n=k_ (qW m at_ n).1 (qW m at_ n).2:=by
 have hp0:G9 (.sl [.str]) (.sl m.nL):=nc.wR T6
 refine⟨n.toNat+1, ?_⟩
 unfold Ww O1 qW
 cases hw:within m at_ n
 ·rfl
 ·obtain⟨p1,p2,p3,p4,p5⟩:=V9 hp0 hw
  obtain⟨a,rfl⟩:=Int.eq_ofNat_of_zero_le p4
  obtain⟨n,rfl⟩:=Int.eq_ofNat_of_zero_le p3
  have hmk:Po 1 0 (n:Int)=true:=by simp only[Po,Bool.and_eq_true,decide_eq_true_eq,Int.toNat_natCast];omega
  simp only[Bool.not_true,cond_false,hmk,ng,cond_true,Int.toNat_natCast]
  have key:∀(q N' a r:Nat) (o:Bytes),r≤q→q<N'→o.length+r=n→a+r≤128*m.nL.length→∀M,w7 ke k_ M (n:Int) m.nL N' (a:Int) (ofStr o)=k_ (o++nlM q a r m.nL) true:=by
   intro q
   induction q with
   | zero=>
    intro N' a r o h1 h2 h3 h4 M
    obtain⟨N',rfl⟩:∃q,N'=q+1:=⟨N' - 1,by omega⟩
    rw[RX]
    have hd:decide (len (ofStr o)<(n:Int))=false:=decide_eq_false (by simp only[len,tP];omega)
    simp only[uZ,hd,cond_false,nlM,List.append_nil,Sf]
   | succ q ih=>
    intro N' a r o h1 h2 h3 h4 M
    obtain⟨N',rfl⟩:∃q,N'=q+1:=⟨N' - 1,by omega⟩
    rw[RX]
    by_cases hr:0<r
    ·have hd:decide (len (ofStr o)<(n:Int))=true:=decide_eq_true (by simp only[len,tP];omega)
     have hpg:a / 128<m.nL.length:=by omega
     obtain⟨p,e1,e2⟩:=p1 (a / 128) hpg
     have w1:nS (((a / 128:Nat):Int))=((a / 128:Nat):Int):=nP (by omega) (by omega)
     have c1:xl 128 (nS (nS (((a % 128:Nat):Int)+(n:Int)) - len (ofStr o)))=((a % 128+min r (128 - a % 128):Nat):Int):=by
      rw[nP (n:=((a % 128:Nat):Int)+(n:Int)) (by omega) (by omega)]
      simp only[len,tP]
      rw[nP (by omega) (by omega)]
      simp only[xl]
      split<;>omega
     have s1:nmv p ((a % 128:Nat):Int) ((a % 128+min r (128 - a % 128):Nat):Int)=Oi m.nL a r:=by
      unfold nmv Oi
      rw[e1,ndZ,Int.toNat_natCast,Int.toNat_natCast,List.drop_take]
      congr 1
      omega
     have g1:ntD p ((a % 128:Nat):Int) ((a % 128+min r (128 - a % 128):Nat):Int)=true:=by simp only[ntD,Bool.and_eq_true,decide_eq_true_eq];omega
     have hl:=nhB p1 (n:=r) hpg
     have g2:(decide (((ofStr o).length+(Oi m.nL a r).length)*1≤140737488355328) && decide ((ofStr o).length+(Oi m.nL a r).length≤9223372036854775807))=true:=by simp only[tP,Bool.and_eq_true,decide_eq_true_eq];omega
     have w2:nS ((a:Int)+len (Oi m.nL a r))=((a+min r (128 - a % 128):Nat):Int):=by simp only[len,hl];rw[nP (by omega) (by omega)];omega
     have eo:ofStr o++ofStr (Oi m.nL a r)=ofStr (o++Oi m.nL a r):=by simp [ofStr]
     have this:=ih N' (a+min r (128 - a % 128)) (r - min r (128 - a % 128)) (o++Oi m.nL a r) (by omega) (by omega) (by rw[List.length_append,hl];omega) (by omega) M
     unfold nlM
     rw[decide_eq_true hr,cond_true,←List.append_assoc]
     simp only[uZ,hd,nj6,nj7,w1,nY hpg,Int.toNat_natCast,e1,ndZ,c1,s1,g1,g2,w2,eo,ng,cond_true]
     exact this
    ·have hd:decide (len (ofStr o)<(n:Int))=false:=decide_eq_false (by simp only[len,tP];omega)
     unfold nlM
     simp only[uZ,hd,decide_eq_false hr,cond_false,List.append_nil,Sf]
  exact key n (n+1) a n [] (Nat.le_refl _) (by omega) (by simp) (by omega) _
def vh (k_:Bytes→Bool→α) (rz:Rows) (oP:Int→Int→Bytes→α) (rD n_1:Int) (oh:Bytes):α:=
 let z0:Int:=xl n_1 (nS (128 - (Int.tmod rD 128)))
 let z1:Int:=nS ((Int.tmod rD 128)+z0)
 let z2:Bytes:=nmv (rS (nth rz (Int.toNat (nS (Int.tdiv rD 128)))) 0) (Int.tmod rD 128) z1
 bif decide (0<n_1) then
  bif Ei (Ei (Ei true (idx (nS (Int.tdiv rD 128)) rz)) (ntD (rS (nth rz (Int.toNat (nS (Int.tdiv rD 128)))) 0) (Int.tmod rD 128) z1)) (oZ oh z2) then
   oP (nS (rD+z0)) (nS (n_1 - z0)) (oh++z2)
  else ke
 else k_ oh true
def xp (k_:Bytes→Bool→α) (N:Nat) (rz:Rows) (m_:Nat):Int→Int→Bytes→α:=
 Nat.rec (motive:=fun _=>Int→Int→Bytes→α) (fun _ _ _=>ke) (fun _ oP=>vh ke k_ rz oP) m_
theorem Sb (k_:Bytes→Bool→α) (N:Nat) (rz:Rows) (m_:Nat):xp ke k_ N rz (m_+1)=vh ke k_ rz (xp ke k_ N rz m_):=rfl
def PF {α:Type} (ke:α) (k_:Bytes→Bool→α) (l0:Rows→Int→Int→Bytes→α) (m:nc) (at_ n:Int):α:=
 bif !(within m at_ n) then k_ [] false
 else l0 m.nL at_ n []
def Xv (k_:Bytes→Bool→α) (N:Nat) (m:nc) (at_ n:Int):α:=PF ke k_ (fun rz=>xp ke k_ N rz N) m at_ n
theorem njX (k_:Bytes→Bool→α) (m:nc) (at_ n:Int) (T6:kc nc.ct m.enc):∃N,Xv ke k_ N m at_ n=k_ (qW m at_ n).1 (qW m at_ n).2:=by
 have hp0:G9 (.sl [.str]) (.sl m.nL):=nc.wR T6
 refine⟨n.toNat+1, ?_⟩
 unfold Xv PF qW
 cases hw:within m at_ n
 ·rfl
 ·obtain⟨p1,p2,p3,p4,p5⟩:=V9 hp0 hw
  obtain⟨a,rfl⟩:=Int.eq_ofNat_of_zero_le p4
  obtain⟨n,rfl⟩:=Int.eq_ofNat_of_zero_le p3
  simp only[Bool.not_true,cond_false,Int.toNat_natCast]
  have key:∀(q N' a r:Nat) (o:Bytes),r≤q→q<N'→o.length+r≤8192→a+r≤128*m.nL.length→∀M,xp ke k_ M m.nL N' (a:Int) (r:Int) o=k_ (o++nlM q a r m.nL) true:=by
   intro q
   induction q with
   | zero=>
    intro N' a r o h1 h2 h3 h4 M
    obtain⟨N',rfl⟩:∃q,N'=q+1:=⟨N' - 1,by omega⟩
    rw[Sb]
    have hd:decide (0<(r:Int))=false:=decide_eq_false (by omega)
    simp only[vh,hd,cond_false,nlM,List.append_nil]
   | succ q ih=>
    intro N' a r o h1 h2 h3 h4 M
    obtain⟨N',rfl⟩:∃q,N'=q+1:=⟨N' - 1,by omega⟩
    rw[Sb]
    by_cases hr:0<r
    ·have hd:decide (0<(r:Int))=true:=decide_eq_true (by omega)
     have hpg:a / 128<m.nL.length:=by omega
     obtain⟨p,e1,e2⟩:=p1 (a / 128) hpg
     have w1:nS (((a / 128:Nat):Int))=((a / 128:Nat):Int):=nP (by omega) (by omega)
     have c1:xl (r:Int) (nS (128 - ((a % 128:Nat):Int)))=((min r (128 - a % 128):Nat):Int):=by
      rw[nP (by omega) (by omega)]
      simp only[xl]
      split<;>omega
     have c2:nS (((a % 128:Nat):Int)+((min r (128 - a % 128):Nat):Int))=((a % 128+min r (128 - a % 128):Nat):Int):=by rw[nP (by omega) (by omega)];omega
     have s1:nmv p ((a % 128:Nat):Int) ((a % 128+min r (128 - a % 128):Nat):Int)=Oi m.nL a r:=by
      unfold nmv Oi
      rw[e1,ndZ,Int.toNat_natCast,Int.toNat_natCast,List.drop_take]
      congr 1
      omega
     have g1:ntD p ((a % 128:Nat):Int) ((a % 128+min r (128 - a % 128):Nat):Int)=true:=by simp only[ntD,Bool.and_eq_true,decide_eq_true_eq];omega
     have hl:=nhB p1 (n:=r) hpg
     have g2:oZ o (Oi m.nL a r)=true:=ncB (by omega)
     have w2:nS ((a:Int)+((min r (128 - a % 128):Nat):Int))=((a+min r (128 - a % 128):Nat):Int):=by rw[nP (by omega) (by omega)];omega
     have w3:nS ((r:Int) - ((min r (128 - a % 128):Nat):Int))=((r - min r (128 - a % 128):Nat):Int):=by rw[nP (by omega) (by omega)];omega
     have this:=ih N' (a+min r (128 - a % 128)) (r - min r (128 - a % 128)) (o++Oi m.nL a r) (by omega) (by omega) (by rw[List.length_append,hl];omega) (by omega) M
     unfold nlM
     rw[decide_eq_true hr,cond_true,←List.append_assoc]
     simp only[vh,hd,nj6,nj7,w1,nY hpg,Int.toNat_natCast,e1,ndZ,c1,c2,s1,g1,g2,w2,w3,ng,cond_true]
     exact this
    ·have hd:decide (0<(r:Int))=false:=decide_eq_false (by omega)
     unfold nlM
     simp only[vh,hd,decide_eq_false hr,cond_false,List.append_nil]
  exact key n (n+1) a n [] (Nat.le_refl _) (by omega) (by simp;omega) (by omega) _
def Nr (k_:Bytes→Bool→α) (x:Int) (rz oN:Rows) (oP:Bytes→Int→α) (oh:Bytes) (oy:Int):α:=
 let z0:Bytes:=(qW (⟨rz⟩:nc) (rI (nth oN (Int.toNat oy)) 0) (rI (nth oN (Int.toNat oy)) 1)).1
 bif decide (oy<x) then
  bif Ei (Ei true (idx oy oN)) (inl (Int.toNat oy) oN) then
   bif Ei true (oZ oh z0) then
    oP (oh++z0) (nS (oy+1))
   else ke
  else ke
 else k_ oh true
def vu (k_:Bytes→Bool→α) (N:Nat) (x:Int) (rz oN:Rows) (m_:Nat):Bytes→Int→α:=
 Nat.rec (motive:=fun _=>Bytes→Int→α) (fun _ _=>ke) (fun _ oP=>Nr ke k_ x rz oN oP) m_
theorem Wk (k_:Bytes→Bool→α) (N:Nat) (x:Int) (rz oN:Rows) (m_:Nat):vu ke k_ N x rz oN (m_+1)=Nr ke k_ x rz oN (vu ke k_ N x rz oN m_):=rfl
def Ua {α:Type} (ke:α) (k_:Bytes→Bool→α) (l0:Int→Rows→Rows→Bytes→Int→α) (na:Rows) (m:nc) (domain at_ n:Int):α:=
 let z0:Rows×Bool:=rN na m domain at_ n false
 bif !z0.2 then k_ [] false
 else l0 (len z0.1) m.nL z0.1 [] 0
def ncP (k_:Bytes→Bool→α) (N:Nat) (na:Rows) (m:nc) (domain at_ n:Int):α:=Ua ke k_ (fun x rz oN=>vu ke k_ N x rz oN N) na m domain at_ n
def nxu (m:nc) (R:Rows):Bytes:=R.foldl (fun o r=>o++(qW m (rI r 0) (rI r 1)).1) []
def tv (na:Rows) (m:nc) (domain at_ n:Int):Bytes×Bool:=bif !(rN na m domain at_ n false).2 then ([],false) else (nxu m (rN na m domain at_ n false).1,true)
theorem npU {σ:Type} (g:σ→List DC→σ):∀(l p:Rows) (s:σ),itN (fun i s=>g s (nth (p++l) i)) l.length p.length s=l.foldl g s:=TV g
theorem npp (k_:Bytes→Bool→α) (na:Rows) (m:nc) (domain at_ n:Int) (T6:kc nc.ct m.enc):∃N,ncP ke k_ N na m domain at_ n=k_ (tv na m domain at_ n).1 (tv na m domain at_ n).2:=by
 have hp0:G9 (.sl [.str]) (.sl m.nL):=nc.wR T6
 refine⟨(rN na m domain at_ n false).1.length+1, ?_⟩
 unfold ncP Ua tv
 dsimp only
 cases hr:(rN na m domain at_ n false).2
 ·rfl
 ·obtain⟨g1,g2,g3⟩:=Xm hp0 hr
  simp only[Bool.not_true,cond_false]
  generalize (rN na m domain at_ n false).1=R at g3 ⊢
  have hM1:(⟨m.nL⟩:nc)=m:=rfl
  refine (yG R.length (fun n i o=>vu ke k_ (R.length+1) (len R) m.nL R n o i) (fun i o=>o++(qW m (rI (nth R i) 0) (rI (nth R i) 1)).1) (fun o=>k_ o true) (fun i o=>o.length≤8192*i) ?_ ?_ ?_ (R.length+1) [] (by simp) (by omega)).trans ?_
  ·intro i o hi ho
   have:=(OE (a:=rI (nth R i) 0) (n:=rI (nth R i) 1) hp0).1
   rw[List.length_append]
   omega
  ·intro n i o hi ho
   show vu ke k_ (R.length+1) (len R) m.nL R (n+1) o (i:Int)=_
   rw[Wk]
   have hl:=(OE (a:=rI (nth R i) 0) (n:=rI (nth R i) 1) hp0).1
   have g5:oZ o (qW m (rI (nth R i) 0) (rI (nth R i) 1)).1=true:=ncB (by omega)
   have w1:nS ((i:Int)+1)=(i:Int)+1:=nP (by omega) (by omega)
   simp only[Nr,pw hi,nY hi,qC hi,Int.toNat_natCast,hM1,g5,w1,ng,cond_true]
  ·intro n o ho
   show vu ke k_ (R.length+1) (len R) m.nL R (n+1) o (R.length:Int)=_
   rw[Wk]
   simp only[Nr,nX,cond_false]
  ·exact congrArg (fun o=>k_ o true) (npU (fun (o:Bytes) (r:List DC)=>o++(qW m (rI r 0) (rI r 1)).1) R [] [])
def NN (k_:Bytes→Bool→α) (rz starts p8:Rows) (oP:Bytes→Int→α) (oh:Bytes) (k:Int):α:=
 let z0:Bytes:=(qW (⟨rz⟩:nc) (rI (nth starts (Int.toNat k)) 0) (rI (nth p8 (Int.toNat k)) 0)).1
 bif decide (k<len starts) then
  bif Ei (Ei (Ei (Ei true (idx k starts)) (inl (Int.toNat k) starts)) (idx k p8)) (inl (Int.toNat k) p8) then
   bif Ei true (oZ oh z0) then
    oP (oh++z0) (nS (k+1))
   else ke
  else ke
 else k_ oh true
def vH (k_:Bytes→Bool→α) (N:Nat) (rz starts p8:Rows) (m_:Nat):Bytes→Int→α:=
 Nat.rec (motive:=fun _=>Bytes→Int→α) (fun _ _=>ke) (fun _ oP=>NN ke k_ rz starts p8 oP) m_
theorem Xo (k_:Bytes→Bool→α) (N:Nat) (rz starts p8:Rows) (m_:Nat):vH ke k_ N rz starts p8 (m_+1)=NN ke k_ rz starts p8 (vH ke k_ N rz starts p8 m_):=rfl
def VC {α:Type} (ke:α) (k_:Bytes→Bool→α) (l0:Rows→Rows→Rows→Bytes→Int→α) (na:Rows) (m:nc) (domain at_ n:Int):α:=
 let z0:Rows×Rows×Bool:=yF na m domain at_ n false
 bif !z0.2.2 then k_ [] false
 else l0 m.nL z0.1 z0.2.1 [] 0
def nd4 (k_:Bytes→Bool→α) (N:Nat) (na:Rows) (m:nc) (domain at_ n:Int):α:=VC ke k_ (fun rz starts p8=>vH ke k_ N rz starts p8 N) na m domain at_ n
theorem nqV (k_:Bytes→Bool→α) (na:Rows) (m:nc) (domain at_ n:Int) (T6:kc nc.ct m.enc):∃N,nd4 ke k_ N na m domain at_ n=k_ (tv na m domain at_ n).1 (tv na m domain at_ n).2:=by
 have hp0:G9 (.sl [.str]) (.sl m.nL):=nc.wR T6
 refine⟨(rN na m domain at_ n false).1.length+1, ?_⟩
 unfold nd4 VC tv yF
 dsimp only
 cases hr:(rN na m domain at_ n false).2
 ·rfl
 ·obtain⟨g1,g2,g3⟩:=Xm hp0 hr
  simp only[Bool.not_true,cond_false]
  generalize (rN na m domain at_ n false).1=R at g3 ⊢
  have hM1:(⟨m.nL⟩:nc)=m:=rfl
  refine (yG R.length (fun n i o=>vH ke k_ (R.length+1) m.nL (R.map pF0) (R.map pF1) n o i) (fun i o=>o++(qW m (rI (nth R i) 0) (rI (nth R i) 1)).1) (fun o=>k_ o true) (fun i o=>o.length≤8192*i) ?_ ?_ ?_ (R.length+1) [] (by simp) (by omega)).trans ?_
  ·intro i o hi ho
   have:=(OE (a:=rI (nth R i) 0) (n:=rI (nth R i) 1) hp0).1
   rw[List.length_append]
   omega
  ·intro n i o hi ho
   show vH ke k_ (R.length+1) m.nL (R.map pF0) (R.map pF1) (n+1) o (i:Int)=_
   rw[Xo]
   have hl:=(OE (a:=rI (nth R i) 0) (n:=rI (nth R i) 1) hp0).1
   have g5:oZ o (qW m (rI (nth R i) 0) (rI (nth R i) 1)).1=true:=ncB (by omega)
   have w1:nS ((i:Int)+1)=(i:Int)+1:=nP (by omega) (by omega)
   have Mv:∀f:List DC→List DC,i<(R.map f).length:=fun f=>by rw[List.length_map];exact hi
   simp only[NN,pw (Mv _),nY (Mv _),qC (Mv _),Int.toNat_natCast,ntC _ hi,pF0,pF1,nu_,hM1,g5,w1,ng,cond_true]
  ·intro n o ho
   show vH ke k_ (R.length+1) m.nL (R.map pF0) (R.map pF1) (n+1) o (R.length:Int)=_
   rw[Xo]
   have hz:decide ((R.length:Int)<len (R.map pF0))=false:=decide_eq_false (by simp only[len,List.length_map];omega)
   simp only[NN,hz,cond_false]
  ·exact congrArg (fun o=>k_ o true) (npU (fun (o:Bytes) (r:List DC)=>o++(qW m (rI r 0) (rI r 1)).1) R [] [])
def ner (k_:nc→α) (m:nc):α:=
 bif Ei true (pY 16 [] m.nL) then
  k_ m
 else ke
theorem nrj (k_:nc→α) (m:nc) (aJ:vW m=true):ner ke k_ m=k_ (oD m):=by
 have HH:vW m=true:=aJ
 unfold ner
 rw[qy (show sm m.nL=true from HH) (show 16≤8388608 by omega)]
 rfl
def uE (k_:nc→Bool→α) (oP:Int→Bytes→Rows→α) (rD:Int) (tR:Bytes) (og:Rows):α:=
 let z0:Bool:=idx (nS (Int.tdiv rD 128)) og
 let z1:Bool:=inl (Int.toNat (nS (Int.tdiv rD 128))) og
 let z2:Int:=xl (len tR) (nS (128 - (Int.tmod rD 128)))
 let z3:List DC:=nth og (Int.toNat (nS (Int.tdiv rD 128)))
 let z4:Bytes:=X1 tR z2
 bif decide (0<len tR) then
  bif Ei (Ei (Ei (Ei (Ei (Ei true z0) z1) (okH tR z2)) (q_ (rS z3 0) (Int.tmod rD 128) z4)) z0) z1 then
   bif Ei true (QK tR z2) then
    oP (nS (rD+z2)) (tu tR z2) (List.set og (Int.toNat (nS (Int.tdiv rD 128))) (bT z3 0 [.str (uW (rS z3 0) (Int.tmod rD 128) z4)]))
   else ke
  else ke
 else k_ (⟨og⟩:nc) true
def wD (k_:nc→Bool→α) (N m_:Nat):Int→Bytes→Rows→α:=
 Nat.rec (motive:=fun _=>Int→Bytes→Rows→α) (fun _ _ _=>ke) (fun _ oP=>uE ke k_ oP) m_
theorem PZ (k_:nc→Bool→α) (N m_:Nat):wD ke k_ N (m_+1)=uE ke k_ (wD ke k_ N m_):=rfl
def Om (k_:nc→Bool→α) (l0:Int→Bytes→Rows→α) (m:nc) (at_:Int) (s:Bytes):α:=
 bif Ei true (vW m) then
  bif !(within m at_ (len s)) then k_ (oD m) false
  else l0 at_ s ((oD m).nL)
 else ke
def VZ (k_:nc→Bool→α) (N:Nat) (m:nc) (at_:Int) (s:Bytes):α:=Om ke k_ (wD ke k_ N N) m at_ s
theorem nhU (k_:nc→Bool→α) (m:nc) (at_:Int) (s:Bytes) (T6:kc nc.ct m.enc) (aJ:sr m at_ s=true):∃N,VZ ke k_ N m at_ s=k_ (qA m at_ s).1 (qA m at_ s).2:=by
 have hp0:G9 (.sl [.str]) (.sl m.nL):=nc.wR T6
 have Ji:vW m=true:=aJ
 refine⟨s.length+1, ?_⟩
 unfold VZ Om qA
 rw[show oD m=m from rfl]
 simp only[Ji,ng,cond_true]
 cases hw:within m at_ (len s)
 ·rfl
 ·obtain⟨p1,p2,p3,p4,p5⟩:=V9 hp0 hw
  obtain⟨a,rfl⟩:=Int.eq_ofNat_of_zero_le p4
  simp only[Bool.not_true,cond_false,Int.toNat_natCast]
  have key:∀(q n a:Nat) (s:Bytes) (l:Rows),s.length≤q→q<n→pgs l→l.length≤64→a+s.length≤128*l.length→∀M,wD ke k_ M n (a:Int) s l=k_ (⟨nl8 q a s l⟩:nc) true:=by
   intro q
   induction q with
   | zero=>
    intro n a s l h1 h2 h3 h4 h5 M
    obtain⟨n,rfl⟩:∃q,n=q+1:=⟨n - 1,by omega⟩
    have:s=[]:=List.length_eq_zero_iff.1 (by omega)
    subst this
    rw[PZ]
    simp only[uE,show decide (0<len ([]:Bytes))=false by decide,cond_false,nl8]
   | succ q ih=>
    intro n a s l h1 h2 h3 h4 h5 M
    obtain⟨n,rfl⟩:∃q,n=q+1:=⟨n - 1,by omega⟩
    rw[PZ]
    by_cases hs:0<s.length
    ·have hd:decide (0<len s)=true:=decide_eq_true (by simp only[len];omega)
     have hpg:a / 128<l.length:=by omega
     obtain⟨p,e1,e2⟩:=h3 (a / 128) hpg
     have w1:nS (((a / 128:Nat):Int))=((a / 128:Nat):Int):=nP (by omega) (by omega)
     have c1:xl (len s) (nS (128 - ((a % 128:Nat):Int)))=((min s.length (128 - a % 128):Nat):Int):=by
      rw[nP (by omega) (by omega)]
      unfold xl len
      by_cases hx:128 - ((a % 128:Nat):Int)<(s.length:Int)
      ·rw[if_pos hx];omega
      ·rw[if_neg hx];omega
     have w2:nS ((a:Int)+((min s.length (128 - a % 128):Nat):Int))=((a+min s.length (128 - a % 128):Nat):Int):=by rw[nP (by omega) (by omega)];omega
     have g1:okH s ((min s.length (128 - a % 128):Nat):Int)=true:=by simp only[okH,Bool.and_eq_true,decide_eq_true_eq];omega
     have g4:QK s ((min s.length (128 - a % 128):Nat):Int)=true:=by simp only[QK,Bool.and_eq_true,decide_eq_true_eq];omega
     have g5:tu s ((min s.length (128 - a % 128):Nat):Int)=s.drop (min s.length (128 - a % 128)):=by simp [tu]
     have g6:X1 s ((min s.length (128 - a % 128):Nat):Int)=s.take (min s.length (128 - a % 128)):=by simp [X1]
     have g7:q_ p ((a % 128:Nat):Int) (s.take (min s.length (128 - a % 128)))=true:=by
      simp only[q_,Bool.and_eq_true,decide_eq_true_eq,List.length_take];omega
     have tk:s.take (min s.length (128 - a % 128))=s.take (128 - a % 128):=by
      rcases Nat.le_total s.length (128 - a % 128) with h8 | h8
      ·rw[Nat.min_eq_left h8,List.take_length,List.take_of_length_le h8]
      ·rw[Nat.min_eq_right h8]
     have g8:uW p ((a % 128:Nat):Int) (s.take (min s.length (128 - a % 128)))=nad p (a % 128) s:=by
      have hw:qX p ((a % 128:Nat):Int) (len (s.take (min s.length (128 - a % 128))))=true:=(within_iff (by omega)).2 (by simp only[len,List.length_take];omega)
      unfold uW nad
      rw[hw,Bool.not_true,cond_false,Int.toNat_natCast,List.append_assoc,List.length_take,tk]
      congr 3
      omega
     have st:=nhZ (a:=a) (s:=s) h3 hpg
     have this:=ih n (a+min s.length (128 - a % 128)) (s.drop (min s.length (128 - a % 128))) (Ro l a s) (by rw[List.length_drop];omega) (by omega) st.1 (by rw[st.2];exact h4) (by rw[st.2,List.length_drop];omega) M
     have e5:Ro l a s=l.set (a / 128) [.str (nad p (a % 128) s)]:=by unfold Ro;rw[e1];rfl
     unfold nl8
     rw[decide_eq_true hs,cond_true]
     rw[e5] at this ⊢
     simp only[uE,hd,nj6,nj7,w1,nY hpg,qC hpg,Int.toNat_natCast,e1,ndZ,c1,w2,g1,g4,g5,g6,g7,g8,Rm,ng,nn,cond_true]
     exact this
    ·have:s=[]:=List.length_eq_zero_iff.1 (by omega)
     subst this
     simp only[uE,show decide (0<len ([]:Bytes))=false by decide,cond_false]
     rfl
  exact key s.length (s.length+1) a s m.nL (Nat.le_refl _) (by omega) p1 p2 (by simp only[len] at p5;omega) _
def zx (k_:nc→Bool→α) (starts p8:Rows) (oP:Bytes→Int→Rows→α) (tR:Bytes) (k:Int) (og:Rows):α:=
 let z0:Bytes:=X1 tR (rI (nth p8 (Int.toNat k)) 0)
 bif decide (k<len starts) then
  bif Ei (Ei (Ei (Ei (Ei (Ei true (idx k starts)) (inl (Int.toNat k) starts)) (idx k p8)) (inl (Int.toNat k) p8)) (okH tR (rI (nth p8 (Int.toNat k)) 0))) (sr (⟨og⟩:nc) (rI (nth starts (Int.toNat k)) 0) z0) then
   bif Ei (Ei (Ei true (idx k p8)) (inl (Int.toNat k) p8)) (QK tR (rI (nth p8 (Int.toNat k)) 0)) then
    oP (tu tR (rI (nth p8 (Int.toNat k)) 0)) (nS (k+1)) (((qA (⟨og⟩:nc) (rI (nth starts (Int.toNat k)) 0) z0).1).nL)
   else ke
  else ke
 else k_ (⟨og⟩:nc) true
def zw (k_:nc→Bool→α) (N:Nat) (starts p8:Rows) (m_:Nat):Bytes→Int→Rows→α:=
 Nat.rec (motive:=fun _=>Bytes→Int→Rows→α) (fun _ _ _=>ke) (fun _ oP=>zx ke k_ starts p8 oP) m_
theorem VD (k_:nc→Bool→α) (N:Nat) (starts p8:Rows) (m_:Nat):zw ke k_ N starts p8 (m_+1)=zx ke k_ starts p8 (zw ke k_ N starts p8 m_):=rfl
def SI (k_:nc→Bool→α) (l0:Rows→Rows→Bytes→Int→Rows→α) (na:Rows) (m:nc) (domain at_:Int) (s:Bytes):α:=
 let z0:Rows×Rows×Bool:=yF na m domain at_ (len s) true
 bif Ei true (vW m) then
  bif !z0.2.2 then k_ (oD m) false
  else l0 z0.1 z0.2.1 s 0 ((oD m).nL)
 else ke
def nbS (k_:nc→Bool→α) (N:Nat) (na:Rows) (m:nc) (domain at_:Int) (s:Bytes):α:=SI ke k_ (fun starts p8=>zw ke k_ N starts p8 N) na m domain at_ s
theorem nom (k_:nc→Bool→α) (na:Rows) (m:nc) (domain at_:Int) (s:Bytes) (T6:kc nc.ct m.enc) (yZ:G9 .str (.str s)) (aJ:wU na m domain at_ s=true):∃N,nbS ke k_ N na m domain at_ s=k_ (tS na m domain at_ s).1 (tS na m domain at_ s).2:=by
 have hp0:G9 (.sl [.str]) (.sl m.nL):=nc.wR T6
 have Ji:vW m=true:=aJ
 have Mz:=yR yZ
 refine⟨(rN na m domain at_ (len s) true).1.length+1, ?_⟩
 unfold nbS SI tS put yF
 rw[show oD m=m from rfl]
 simp only[Ji,ng,cond_true]
 cases hr:(rN na m domain at_ (len s) true).2
 ·rfl
 ·obtain⟨g1,g2,g3⟩:=Xm hp0 hr
  simp only[Bool.not_true,cond_false]
  generalize (rN na m domain at_ (len s) true).1=R at g3 ⊢
  have key:∀(q n i:Nat) (s:Bytes) (l:Rows),i+q=R.length→q<n→T3 (fun _=>True) (R.drop i) s.length→pgs l→l.length≤64→R.length≤5000→
    zw ke k_ (R.length+1) (R.map pF0) (R.map pF1) n s (i:Int) l=k_ (⟨nsz (R.drop i) s l⟩:nc) true:=by
   intro q
   induction q with
   | zero=>
    intro n i s l h1 h2 h3 h4 h5 h6
    obtain⟨n,rfl⟩:∃q,n=q+1:=⟨n - 1,by omega⟩
    rw[VD,List.drop_eq_nil_of_le (by omega)]
    have hf:decide ((i:Int)<len (R.map pF0))=false:=decide_eq_false (by simp only[len,List.length_map];omega)
    simp only[zx,hf,cond_false,nsz]
   | succ q ih=>
    intro n i s l h1 h2 h3 h4 h5 h6
    obtain⟨n,rfl⟩:∃q,n=q+1:=⟨n - 1,by omega⟩
    have hi:i<R.length:=by omega
    have e0:R[i]=nth R i:=by simp [nth,hi]
    rw[List.drop_eq_getElem_cons hi,e0] at h3 ⊢
    obtain⟨p,k,e1,k1,k2,k3,_,k4⟩:=h3
    rw[VD]
    have w1:nS ((i:Int)+1)=((i+1:Nat):Int):=by rw[nP (by omega) (by omega)];omega
    have x1:okH s (k:Int)=true:=by simp only[okH,Bool.and_eq_true,decide_eq_true_eq];omega
    have x2:QK s (k:Int)=true:=by simp only[QK,Bool.and_eq_true,decide_eq_true_eq];omega
    have x3:X1 s (k:Int)=s.take k:=by simp [X1]
    have x4:tu s (k:Int)=s.drop k:=by simp [tu]
    have x5:∀a b,sr (⟨l⟩:nc) a b=true:=fun a b=>by
     unfold sr sm
     exact decide_eq_true (by show l.length≤16777216;omega)
    have Mv:∀f:List DC→List DC,i<(R.map f).length:=fun f=>by rw[List.length_map];exact hi
    have n0:nth (R.map pF0) i=[.int (p:Int)]:=by rw[ntC _ hi,e1];rfl
    have n1:nth (R.map pF1) i=[.int (k:Int)]:=by rw[ntC _ hi,e1];rfl
    have r1:rI [DC.int (p:Int),DC.int (k:Int)] 0=(p:Int):=rfl
    have r2:rI [DC.int (p:Int),DC.int (k:Int)] 1=(k:Int):=rfl
    have wp:=nai (a:=(p:Int)) (s:=s.take k) h4 h5
    have this:=ih n (i+1) (s.drop k) (qA (⟨l⟩:nc) (p:Int) (s.take k)).1.nL (by omega) (by omega) (by rw[List.length_drop];exact k4) wp.1 (by rw[wp.2];exact h5) h6
    simp only[zx,pw (Mv _),nY (Mv _),qC (Mv _),Int.toNat_natCast,n0,n1,e1,r1,r2,nu_,x1,x2,x3,x4,x5,w1,ng,nn,cond_true,nsz]
    exact this
  exact key R.length (R.length+1) 0 s m.nL (by omega) (by omega) (by have h:=g3.1;rw[show (len s).toNat=s.length by simp [len]] at h;exact h) g1 g2 g3.2
def neB (k_:nF→α) (f:nF):α:=
 bif Ei true (pY 8 [] f.pE) then
  k_ f
 else ke
def nii (f:nF):Bool:=sm f.pE
theorem nrr (k_:nF→α) (f:nF) (aJ:nii f=true):neB ke k_ f=k_ (oD f):=by
 have HH:nii f=true:=aJ
 unfold neB
 rw[qy (show sm f.pE=true from HH) (show 8≤8388608 by omega)]
 rfl
def WA (k_:nF→α) (f:nF):α:=
 bif Ei true (sm f.pE) then
  k_ (⟨f.Wj,f.oH,oD f.pE⟩:nF)
 else ke
theorem niz (k_:nF→α) (f:nF) (aJ:nii f=true):WA ke k_ f=k_ (oD f):=by
 have HH:nii f=true:=aJ
 unfold WA
 rw[show sm f.pE=true from HH]
 rfl
def nek (k_:ni→α) (t:ni):α:=
 bif Ei true (pY 56 [] t.nH) then
  k_ t
 else ke
def nj5 (t:ni):Bool:=sm t.nH
theorem nrc (k_:ni→α) (t:ni) (aJ:nj5 t=true):nek ke k_ t=k_ (oD t):=by
 have HH:nj5 t=true:=aJ
 unfold nek
 rw[qy (show sm t.nH=true from HH) (show 56≤8388608 by omega)]
 rfl
def Ym (k_:ni→α) (t:ni):α:=
 bif Ei true (pY 56 [] t.nH) then
  k_ t
 else ke
theorem nkt (k_:ni→α) (t:ni) (aJ:nj5 t=true):Ym ke k_ t=k_ (oD t):=by
 have HH:nj5 t=true:=aJ
 unfold Ym
 rw[qy (show sm t.nH=true from HH) (show 56≤8388608 by omega)]
 rfl
def WD (k_:nI→α) (s:nI):α:=
 bif Ei true (sm s.Table) then
  k_ (⟨s.Key,oD s.Table⟩:nI)
 else ke
def nuq (s:nI):Bool:=sm s.Table
theorem niC (k_:nI→α) (s:nI) (aJ:nuq s=true):WD ke k_ s=k_ (oD s):=by
 have HH:nuq s=true:=aJ
 unfold WD
 rw[show sm s.Table=true from HH]
 rfl
def nep (k_:nm→α) (s:nm):α:=
 bif Ei (Ei (Ei true (pY 72 [] s.oM)) (nj5 s.Table)) (pY 8 [] s.oa.Table) then
  k_ (⟨s.oM,oD s.Table,s.oa⟩:nm)
 else ke
def ZS (s:nm):Bool:=sm s.oM && (sm s.Table.nH && sm s.oa.Table)
theorem nrh (k_:nm→α) (s:nm) (aJ:ZS s=true):nep ke k_ s=k_ (oD s):=by
 have HH:ZS s=true:=aJ
 unfold nep
 simp only[ZS,Bool.and_eq_true] at HH
 obtain⟨h1,h2,h3⟩:=HH
 rw[qy h1 (show 72≤8388608 by omega),qy h3 (show 8≤8388608 by omega),show nj5 s.Table=true from h2]
 rfl
def S6 (k_:nm→α) (s:nm):α:=
 bif Ei (Ei (Ei true (pY 72 [] s.oM)) (nj5 s.Table)) (nuq s.oa) then
  k_ (⟨s.oM,oD s.Table,oD s.oa⟩:nm)
 else ke
theorem ne7 (k_:nm→α) (s:nm) (aJ:ZS s=true):S6 ke k_ s=k_ (oD s):=by
 have HH:ZS s=true:=aJ
 unfold S6
 simp only[ZS,Bool.and_eq_true] at HH
 obtain⟨h1,h2,h3⟩:=HH
 rw[qy h1 (show 72≤8388608 by omega),show nj5 s.Table=true from h2,show nuq s.oa=true from h3]
 rfl
def S5 (k_:Rows→α) (na:Rows):α:=
 bif Ei true (pY 32 [] na) then
  k_ na
 else ke
theorem ne5 (k_:Rows→α) (na:Rows) (aJ:sm na=true):S5 ke k_ na=k_ (oD na):=by
 have HH:sm na=true:=aJ
 unfold S5
 rw[qy (show sm na=true from HH) (show 32≤8388608 by omega)]
 rfl
def UB (k_:Rows→α) (na:Rows):α:=
 bif Ei true (pY 72 [] na) then
  k_ na
 else ke
theorem ngX (k_:Rows→α) (na:Rows) (aJ:sm na=true):UB ke k_ na=k_ (oD na):=by
 have HH:sm na=true:=aJ
 unfold UB
 rw[qy (show sm na=true from HH) (show 72≤8388608 by omega)]
 rfl
def ze (k_:Rows→α) (na:Rows) (oy:Int) (oP:Int→Rows→α) (oN:Int) (oh:Rows):α:=
 bif decide (oN<oy) then
  bif Ei true (idx oN na) then
   bif Ei (Ei true (sm (rR (nth na (Int.toNat oN)) 2))) (pY 40 oh ([[.int (rI (nth na (Int.toNat oN)) 0),.int (rI (nth na (Int.toNat oN)) 1),.sl (oD (rR (nth na (Int.toNat oN)) 2))]])) then
    oP (nS (oN+1)) (oh++([[.int (rI (nth na (Int.toNat oN)) 0),.int (rI (nth na (Int.toNat oN)) 1),.sl (oD (rR (nth na (Int.toNat oN)) 2))]]))
   else ke
  else ke
 else k_ oh
def uS (k_:Rows→α) (N:Nat) (na:Rows) (oy:Int) (m_:Nat):Int→Rows→α:=
 Nat.rec (motive:=fun _=>Int→Rows→α) (fun _ _=>ke) (fun _ oP=>ze ke k_ na oy oP) m_
theorem UA (k_:Rows→α) (N:Nat) (na:Rows) (oy:Int) (m_:Nat):uS ke k_ N na oy (m_+1)=ze ke k_ na oy (uS ke k_ N na oy m_):=rfl
def Sv {α:Type} (ke:α) (k_:Rows→α) (l0:Int→Int→Rows→α) (na:Rows):α:=
 l0 (len na) 0 []
def na7 (k_:Rows→α) (N:Nat) (na:Rows):α:=Sv ke k_ (fun oy=>uS ke k_ N na oy N) na
theorem nm8 (k_:Rows→α) (na:Rows) (pP:G9 (.sl [.i,.i,.sl [.i]]) (.sl na)) (aJ:Pv na=true):∃N,na7 ke k_ N na=k_ (oD na):=by
 obtain⟨hl,hw⟩:=oJ pP
 have HH:=aJ
 simp only[Pv,Bool.and_eq_true,List.all_eq_true] at HH
 obtain⟨s1,s2⟩:=HH
 have l1:=sO s1
 refine⟨na.length+1, ?_⟩
 unfold na7 Sv
 refine (yG na.length (fun n i o=>uS ke k_ (na.length+1) na (len na) n i o) (fun i o=>o++[nth na i]) k_ (fun i o=>o.length≤i) ?_ ?_ ?_ (na.length+1) [] (by simp) (by omega)).trans ?_
 ·intro i o hi ho
  simp only[List.length_append,List.length_cons,List.length_nil];omega
 ·intro n i o hi ho
  show uS ke k_ (na.length+1) na (len na) (n+1) (i:Int) o=_
  rw[UA]
  have er:[DC.int (rI (nth na i) 0),DC.int (rI (nth na i) 1),DC.sl (rR (nth na i) 2)]=nth na i:=py.eta (hw _ (qi hi))
  have hb:sm (rR (nth na i) 2)=true:=s2 _ (qi hi)
  have iC:pY 8 [] (rR (nth na i) 2)=true:=qy hb (show 8≤8388608 by omega)
  have eI:∀x:List DC,pY 40 o [x]=true:=fun x=>wM (by simp only[List.length_cons,List.length_nil];omega) (by omega)
  simp only[ze,oD,pw hi,nY hi,hb,eI,er,oO hi hl,Int.toNat_natCast,ng,nn,cond_true]
 ·intro n o ho
  show uS ke k_ (na.length+1) na (len na) (n+1) (na.length:Int) o=_
  rw[UA]
  simp only[ze,nX,cond_false]
 ·exact congrArg k_ ((TV (fun (o:Rows) (r:List DC)=>o++[r]) na [] []).trans ((foldl_push (fun r=>r) na []).trans (by simp [oD])))
def NV (k_:nv→α) (PM:Rows) (oh pg ph pj pk pn po pq:Int) (zu:Rows) (oP:Int→Rows→α) (k:Int) (r_:Rows):α:=
 bif decide (k<len PM) then
  bif Ei true (idx k PM) then
   bif Ei (Ei true (pY 8 [] (rR (nth PM (Int.toNat k)) 2))) (pY 40 r_ ([[.int (rI (nth PM (Int.toNat k)) 0),.int (rI (nth PM (Int.toNat k)) 1),.sl (rR (nth PM (Int.toNat k)) 2)]])) then
    oP (nS (k+1)) (r_++([[.int (rI (nth PM (Int.toNat k)) 0),.int (rI (nth PM (Int.toNat k)) 1),.sl (rR (nth PM (Int.toNat k)) 2)]]))
   else ke
  else ke
 else k_ (⟨(⟨oh,pg,ph,pj⟩:nE),(⟨pk,pn,po,zu⟩:nj),r_,pq⟩:nv)
def uu (k_:nv→α) (N:Nat) (PM:Rows) (oh pg ph pj pk pn po pq:Int) (zu:Rows) (m_:Nat):Int→Rows→α:=
 Nat.rec (motive:=fun _=>Int→Rows→α) (fun _ _=>ke) (fun _ oP=>NV ke k_ PM oh pg ph pj pk pn po pq zu oP) m_
theorem XA (k_:nv→α) (N:Nat) (PM:Rows) (oh pg ph pj pk pn po pq:Int) (zu:Rows) (m_:Nat):uu ke k_ N PM oh pg ph pj pk pn po pq zu (m_+1)=NV ke k_ PM oh pg ph pj pk pn po pq zu (uu ke k_ N PM oh pg ph pj pk pn po pq zu m_):=rfl
def V5 (k_:nv→α) (l0:Rows→Int→Int→Int→Int→Int→Int→Int→Int→Rows→Int→Rows→α) (q:nv):α:=
 bif Ei true (we q.n9) then
  l0 q.nD q.Ring.oA q.Ring.nG q.Ring.Head q.Ring.qQ ((oD q.n9).oA) ((oD q.n9).nG) ((oD q.n9).Count) q.Next ((oD q.n9).oe) 0 []
 else ke
def neA (k_:nv→α) (N:Nat) (q:nv):α:=V5 ke k_ (fun PM oh pg ph pj pk pn po pq zu=>uu ke k_ N PM oh pg ph pj pk pn po pq zu N) q
def nrz (q:nv):Bool:=sm q.n9.oe && Pv q.nD
theorem nro (k_:nv→α) (q:nv) (h_q:kc nv.ct q.enc) (aJ:nrz q=true):∃N,neA ke k_ N q=k_ (oD q):=by
 obtain⟨hl,hw⟩:=oJ (nv.Rp h_q)
 have HH:=aJ
 simp only[nrz,Pv,Bool.and_eq_true,List.all_eq_true] at HH
 obtain⟨s0,s1,s2⟩:=HH
 have l1:=sO s1
 refine⟨q.nD.length+1, ?_⟩
 unfold neA V5
 rw[show we q.n9=true from s0]
 have key:∀(x0 x1 x2 x3 x4 x5 x6 x7:Int) (F:Rows),uu ke k_ (q.nD.length+1) q.nD x0 x1 x2 x3 x4 x5 x6 x7 F (q.nD.length+1) 0 []=k_ (⟨⟨x0,x1,x2,x3⟩,⟨x4,x5,x6,F⟩,q.nD,x7⟩:nv):=by
  intro x0 x1 x2 x3 x4 x5 x6 x7 F
  refine (yG q.nD.length (fun n i o=>uu ke k_ (q.nD.length+1) q.nD x0 x1 x2 x3 x4 x5 x6 x7 F n i o) (fun i o=>o++[nth q.nD i]) (fun o=>k_ (⟨⟨x0,x1,x2,x3⟩,⟨x4,x5,x6,F⟩,o,x7⟩:nv)) (fun i o=>o.length≤i) ?_ ?_ ?_ (q.nD.length+1) [] (by simp) (by omega)).trans ?_
  ·intro i o hi ho
   simp only[List.length_append,List.length_cons,List.length_nil];omega
  ·intro n i o hi ho
   show uu ke k_ (q.nD.length+1) q.nD x0 x1 x2 x3 x4 x5 x6 x7 F (n+1) (i:Int) o=_
   rw[XA]
   have er:[DC.int (rI (nth q.nD i) 0),DC.int (rI (nth q.nD i) 1),DC.sl (rR (nth q.nD i) 2)]=nth q.nD i:=py.eta (hw _ (qi hi))
   have hb:sm (rR (nth q.nD i) 2)=true:=s2 _ (qi hi)
   have iC:pY 8 [] (rR (nth q.nD i) 2)=true:=qy hb (show 8≤8388608 by omega)
   have eI:∀x:List DC,pY 40 o [x]=true:=fun x=>wM (by simp only[List.length_cons,List.length_nil];omega) (by omega)
   simp only[NV,pw hi,nY hi,iC,eI,er,oO hi hl,Int.toNat_natCast,ng,nn,cond_true]
  ·intro n o ho
   show uu ke k_ (q.nD.length+1) q.nD x0 x1 x2 x3 x4 x5 x6 x7 F (n+1) (q.nD.length:Int) o=_
   rw[XA]
   simp only[NV,nX,cond_false]
  ·exact congrArg (fun o=>k_ (⟨⟨x0,x1,x2,x3⟩,⟨x4,x5,x6,F⟩,o,x7⟩:nv)) ((TV (fun (o:Rows) (r:List DC)=>o++[r]) q.nD [] []).trans ((foldl_push (fun r=>r) q.nD []).trans (by simp)))
 exact key _ _ _ _ _ _ _ _ _
def nfR (k_:nv→α) (q:nv):α:=
 bif Ei (Ei true (we q.n9)) (Pv q.nD) then
  k_ (⟨q.Ring,oD q.n9,oD q.nD,q.Next⟩:nv)
 else ke
theorem nrS (k_:nv→α) (q:nv) (aJ:nrz q=true):nfR ke k_ q=k_ (oD q):=by
 have HH:=aJ
 simp only[nrz,Bool.and_eq_true] at HH
 obtain⟨s0,s1⟩:=HH
 unfold nfR
 rw[show we q.n9=true from s0,s1]
 rfl
def zd (k_:nt→α) (x:Rows) (oy:Int) (pe ql:Rows) (qw:Int) (qx:Bool) (qm pI pJ:Rows) (pM:Bytes) (pK qn qo qp qq:Rows) (oh pg ph pj pk pn po pq:Int) (oQ:Bool) (oT oY qK oR oS:Int) (og ou oz n7 nZ:Rows) (oP:Int→Rows→α) (oN:Int) (oX:Rows):α:=
 let z0:nm:=(⟨pI,(⟨pJ⟩:ni),(⟨pM,pK⟩:nI)⟩:nm)
 bif decide (oN<oy) then
  bif Ei true (idx oN x) then
   bif Ei (Ei true (we (nj.nd (nth x (Int.toNat oN)) 0))) (pY 48 oX [nj.enc (oD (nj.nd (nth x (Int.toNat oN)) 0))]) then
    oP (nS (oN+1)) (oX++[nj.enc (oD (nj.nd (nth x (Int.toNat oN)) 0))])
   else ke
  else ke
 else bif Ei true (pY 40 [] pe) then
   bif Ei true (pY 1 [] ql) then
    bif Ei true (nii (⟨qw,qx,qm⟩:nF)) then
     bif Ei true (ZS z0) then
      bif Ei true (sm qn) then
       bif Ei true (sm qo) then
        bif Ei true (sm qp) then
         bif Ei true (sm qq) then
          k_ (⟨(⟨og⟩:nc),ou,(⟨(⟨oh,pg,ph,pj⟩:nE),(⟨pk,pn,po,oz⟩:nj),n7,pq⟩:nv),nZ,oX,pe,ql,oD (⟨qw,qx,qm⟩:nF),oD z0,oD qn,oQ,oD qo,oD qp,oD qq,(⟨oT,oY,qK,oR,oS⟩:ot)⟩:nt)
         else ke
        else ke
       else ke
      else ke
     else ke
    else ke
   else ke
  else ke
def tE (k_:nt→α) (N:Nat) (x:Rows) (oy:Int) (pe ql:Rows) (qw:Int) (qx:Bool) (qm pI pJ:Rows) (pM:Bytes) (pK qn qo qp qq:Rows) (oh pg ph pj pk pn po pq:Int) (oQ:Bool) (oT oY qK oR oS:Int) (og ou oz n7 nZ:Rows) (m_:Nat):Int→Rows→α:=
 Nat.rec (motive:=fun _=>Int→Rows→α) (fun _ _=>ke) (fun _ oP=>zd ke k_ x oy pe ql qw qx qm pI pJ pM pK qn qo qp qq oh pg ph pj pk pn po pq oQ oT oY qK oR oS og ou oz n7 nZ oP) m_
theorem Uz (k_:nt→α) (N:Nat) (x:Rows) (oy:Int) (pe ql:Rows) (qw:Int) (qx:Bool) (qm pI pJ:Rows) (pM:Bytes) (pK qn qo qp qq:Rows) (oh pg ph pj pk pn po pq:Int) (oQ:Bool) (oT oY qK oR oS:Int) (og ou oz n7 nZ:Rows) (m_:Nat):tE ke k_ N x oy pe ql qw qx qm pI pJ pM pK qn qo qp qq oh pg ph pj pk pn po pq oQ oT oY qK oR oS og ou oz n7 nZ (m_+1)=zd ke k_ x oy pe ql qw qx qm pI pJ pM pK qn qo qp qq oh pg ph pj pk pn po pq oQ oT oY qK oR oS og ou oz n7 nZ (tE ke k_ N x oy pe ql qw qx qm pI pJ pM pK qn qo qp qq oh pg ph pj pk pn po pq oQ oT oY qK oR oS og ou oz n7 nZ m_):=rfl
def Ss (k_:nt→α) (l0:Rows→Int→Rows→Rows→Int→Bool→Rows→Rows→Rows→Bytes→Rows→Rows→Rows→Rows→Rows→Int→Int→Int→Int→Int→Int→Int→Int→Bool→Int→Int→Int→Int→Int→Rows→Rows→Rows→Rows→Rows→Int→Rows→α) (h:nt):α:=
 bif Ei true (vW h.n_) then
  bif Ei true (sm h.Maps) then
   bif Ei true (nrz h.Tx) then
    bif Ei true (pY 248 [] h.Rx) then
     l0 h.nR (len h.nR) h.nN h.nT h.Filter.Wj h.Filter.oH h.Filter.pE h.nk.oM h.nk.Table.nH h.nk.oa.Key h.nk.oa.Table h.oE h.tU h.oG h.oU (((oD h.Tx).Ring).oA) (((oD h.Tx).Ring).nG) (((oD h.Tx).Ring).Head) (((oD h.Tx).Ring).qQ) (((oD h.Tx).n9).oA) (((oD h.Tx).n9).nG) (((oD h.Tx).n9).Count) ((oD h.Tx).Next) h.p9 h.Counters.Frames h.Counters.Bad h.Counters.pX h.Counters.qz h.Counters.tz ((oD h.n_).nL) (oD h.Maps) (((oD h.Tx).n9).oe) ((oD h.Tx).nD) h.Rx 0 []
    else ke
   else ke
  else ke
 else ke
def na1 (k_:nt→α) (N:Nat) (h:nt):α:=Ss ke k_ (fun x oy pe ql qw qx qm pI pJ pM pK qn qo qp qq oh pg ph pj pk pn po pq oQ oT oY qK oR oS og ou oz n7 nZ=>tE ke k_ N x oy pe ql qw qx qm pI pJ pM pK qn qo qp qq oh pg ph pj pk pn po pq oQ oT oY qK oR oS og ou oz n7 nZ N) h
theorem nm3 (k_:nt→α) (h:nt) (h_h:kc nt.ct h.enc) (aJ:vq h=true):∃N,na1 ke k_ N h=k_ (oD h):=by
 obtain⟨hl,hw⟩:=oJ (nt.Sg h_h)
 have HH:vq h=true:=aJ
 simp only[vq,Bool.and_eq_true] at HH
 obtain⟨s0,s1,s2,s3,s4,s5,s6,s7,s8,s9,s10,s11,s12,s13,s14,s15⟩:=HH
 simp only[Xn,Bool.and_eq_true,List.all_eq_true] at s5
 obtain⟨t1,t2⟩:=s5
 have l1:=sO t1
 have m2:nrz h.Tx=true:=by simp only[nrz,s2,s3,Bool.and_self]
 have r4:pY 248 [] h.Rx=true:=qy s4 (by omega)
 refine⟨h.nR.length+1, ?_⟩
 unfold na1 Ss
 rw[show vW h.n_=true from s0]
 simp only[m2,r4,s1,ng,cond_true]
 have key:∀(pe:Rows) (ql:Rows) (qw:Int) (qx:Bool) (qm:Rows) (pI:Rows) (pJ:Rows) (pM:Bytes) (pK:Rows) (qn:Rows) (qo:Rows) (qp:Rows) (qq:Rows) (oh:Int) (pg:Int) (ph:Int) (pj:Int) (pk:Int) (pn:Int) (po:Int) (pq:Int) (oQ:Bool) (oT:Int) (oY:Int) (qK:Int) (oR:Int) (oS:Int) (og:Rows) (ou:Rows) (oz:Rows) (n7:Rows) (nZ:Rows),sm pe=true→sm ql=true→sm qm=true→sm pI=true→sm pJ=true→sm pK=true→sm qn=true→sm qo=true→sm qp=true→sm qq=true→
   tE ke k_ (h.nR.length+1) h.nR (len h.nR) pe ql qw qx qm pI pJ pM pK qn qo qp qq oh pg ph pj pk pn po pq oQ oT oY qK oR oS og ou oz n7 nZ (h.nR.length+1) 0 []=k_ (⟨(⟨og⟩:nc),ou,(⟨(⟨oh,pg,ph,pj⟩:nE),(⟨pk,pn,po,oz⟩:nj),n7,pq⟩:nv),nZ,h.nR,pe,ql,(⟨qw,qx,qm⟩:nF),(⟨pI,(⟨pJ⟩:ni),(⟨pM,pK⟩:nI)⟩:nm),qn,oQ,qo,qp,qq,(⟨oT,oY,qK,oR,oS⟩:ot)⟩:nt):=by
  intro pe ql qw qx qm pI pJ pM pK qn qo qp qq oh pg ph pj pk pn po pq oQ oT oY qK oR oS og ou oz n7 nZ q6 q7 q8 q9 q10 q11 q12 q13 q14 q15
  have u6:pY 40 [] pe=true:=qy q6 (by omega)
  have u7:pY 1 [] ql=true:=qy q7 (by omega)
  have u8:nii (⟨qw,qx,qm⟩:nF)=true:=q8
  have u9:ZS (⟨pI,(⟨pJ⟩:ni),(⟨pM,pK⟩:nI)⟩:nm)=true:=by simp only[ZS,q9,q10,q11,Bool.and_self]
  have u12:pY 72 [] qn=true:=qy q12 (by omega)
  have u13:pY 16 [] qo=true:=qy q13 (by omega)
  have u14:pY 8 [] qp=true:=qy q14 (by omega)
  have u15:pY 8 [] qq=true:=qy q15 (by omega)
  refine (yG h.nR.length (fun n i o=>tE ke k_ (h.nR.length+1) h.nR (len h.nR) pe ql qw qx qm pI pJ pM pK qn qo qp qq oh pg ph pj pk pn po pq oQ oT oY qK oR oS og ou oz n7 nZ n i o) (fun i o=>o++[nth h.nR i]) (fun o=>k_ (⟨(⟨og⟩:nc),ou,(⟨(⟨oh,pg,ph,pj⟩:nE),(⟨pk,pn,po,oz⟩:nj),n7,pq⟩:nv),nZ,o,pe,ql,(⟨qw,qx,qm⟩:nF),(⟨pI,(⟨pJ⟩:ni),(⟨pM,pK⟩:nI)⟩:nm),qn,oQ,qo,qp,qq,(⟨oT,oY,qK,oR,oS⟩:ot)⟩:nt)) (fun i o=>o.length≤i) ?_ ?_ ?_ (h.nR.length+1) [] (by simp) (by omega)).trans ?_
  ·intro i o hi ho
   simp only[List.length_append,List.length_cons,List.length_nil];omega
  ·intro n i o hi ho
   show tE ke k_ (h.nR.length+1) h.nR (len h.nR) pe ql qw qx qm pI pJ pM pK qn qo qp qq oh pg ph pj pk pn po pq oQ oT oY qK oR oS og ou oz n7 nZ (n+1) (i:Int) o=_
   rw[Uz]
   have er:nj.enc (nj.nd (nth h.nR i) 0)=nth h.nR i:=nj.eta (hw _ (qi hi))
   have hb:we (nj.nd (nth h.nR i) 0)=true:=t2 _ (qi hi)
   have eI:∀x:List DC,pY 48 o [x]=true:=fun x=>wM (by simp only[List.length_cons,List.length_nil];omega) (by omega)
   simp only[zd,oD,pw hi,nY hi,hb,eI,er,oO hi hl,Int.toNat_natCast,ng,nn,cond_true]
  ·intro n o ho
   show tE ke k_ (h.nR.length+1) h.nR (len h.nR) pe ql qw qx qm pI pJ pM pK qn qo qp qq oh pg ph pj pk pn po pq oQ oT oY qK oR oS og ou oz n7 nZ (n+1) (h.nR.length:Int) o=_
   rw[Uz]
   simp only[zd,nX,cond_false,oD,u6,u7,u8,u9,u12,u13,u14,u15,q12,q13,q14,q15,ng,cond_true]
  ·exact congrArg (fun o=>k_ (⟨(⟨og⟩:nc),ou,(⟨(⟨oh,pg,ph,pj⟩:nE),(⟨pk,pn,po,oz⟩:nj),n7,pq⟩:nv),nZ,o,pe,ql,(⟨qw,qx,qm⟩:nF),(⟨pI,(⟨pJ⟩:ni),(⟨pM,pK⟩:nI)⟩:nm),qn,oQ,qo,qp,qq,(⟨oT,oY,qK,oR,oS⟩:ot)⟩:nt)) ((TV (fun (o:Rows) (r:List DC)=>o++[r]) h.nR [] []).trans ((foldl_push (fun r=>r) h.nR []).trans (by simp)))
 exact key _ _ _ _ _ _ _ _ _ _ _ _ _ _ _ _ _ _ _ _ _ _ _ _ _ _ _ _ _ _ _ _ s6 s7 s8 s9 s10 s11 s12 s13 s14 s15
def NW (k_:nt→α) (qc pe ql:Rows) (qw:Int) (qx:Bool) (qm pI pJ:Rows) (pM:Bytes) (pK qn qo qp qq:Rows) (oh pg ph pj pk pn po pq:Int) (oQ:Bool) (oT oY qK oR oS:Int) (og ou oz n7 nZ:Rows) (oP:Int→Rows→α) (k:Int) (oX:Rows):α:=
 let z0:nm:=(⟨pI,(⟨pJ⟩:ni),(⟨pM,pK⟩:nI)⟩:nm)
 bif decide (k<len qc) then
  bif Ei (Ei (Ei true (idx k qc)) (we (nj.nd (nth qc (Int.toNat k)) 0))) (pY 48 oX [nj.enc (oD (nj.nd (nth qc (Int.toNat k)) 0))]) then
   oP (nS (k+1)) (oX++[nj.enc (oD (nj.nd (nth qc (Int.toNat k)) 0))])
  else ke
 else bif Ei true (pY 40 [] pe) then
   bif Ei true (pY 1 [] ql) then
    bif Ei true (nii (⟨qw,qx,qm⟩:nF)) then
     bif Ei true (ZS z0) then
      bif Ei true (pY 72 [] qn) then
       bif Ei true (pY 16 [] qo) then
        bif Ei true (pY 8 [] qp) then
         bif Ei true (pY 8 [] qq) then
          k_ (⟨(⟨og⟩:nc),ou,(⟨(⟨oh,pg,ph,pj⟩:nE),(⟨pk,pn,po,oz⟩:nj),n7,pq⟩:nv),nZ,oX,pe,ql,oD (⟨qw,qx,qm⟩:nF),oD z0,qn,oQ,qo,qp,qq,(⟨oT,oY,qK,oR,oS⟩:ot)⟩:nt)
         else ke
        else ke
       else ke
      else ke
     else ke
    else ke
   else ke
  else ke
def uv (k_:nt→α) (N:Nat) (qc pe ql:Rows) (qw:Int) (qx:Bool) (qm pI pJ:Rows) (pM:Bytes) (pK qn qo qp qq:Rows) (oh pg ph pj pk pn po pq:Int) (oQ:Bool) (oT oY qK oR oS:Int) (og ou oz n7 nZ:Rows) (m_:Nat):Int→Rows→α:=
 Nat.rec (motive:=fun _=>Int→Rows→α) (fun _ _=>ke) (fun _ oP=>NW ke k_ qc pe ql qw qx qm pI pJ pM pK qn qo qp qq oh pg ph pj pk pn po pq oQ oT oY qK oR oS og ou oz n7 nZ oP) m_
theorem XB (k_:nt→α) (N:Nat) (qc pe ql:Rows) (qw:Int) (qx:Bool) (qm pI pJ:Rows) (pM:Bytes) (pK qn qo qp qq:Rows) (oh pg ph pj pk pn po pq:Int) (oQ:Bool) (oT oY qK oR oS:Int) (og ou oz n7 nZ:Rows) (m_:Nat):uv ke k_ N qc pe ql qw qx qm pI pJ pM pK qn qo qp qq oh pg ph pj pk pn po pq oQ oT oY qK oR oS og ou oz n7 nZ (m_+1)=NW ke k_ qc pe ql qw qx qm pI pJ pM pK qn qo qp qq oh pg ph pj pk pn po pq oQ oT oY qK oR oS og ou oz n7 nZ (uv ke k_ N qc pe ql qw qx qm pI pJ pM pK qn qo qp qq oh pg ph pj pk pn po pq oQ oT oY qK oR oS og ou oz n7 nZ m_):=rfl
def V6 (k_:nt→α) (l0:Rows→Rows→Rows→Int→Bool→Rows→Rows→Rows→Bytes→Rows→Rows→Rows→Rows→Rows→Int→Int→Int→Int→Int→Int→Int→Int→Bool→Int→Int→Int→Int→Int→Rows→Rows→Rows→Rows→Rows→Int→Rows→α) (h:nt):α:=
 bif Ei true (vW h.n_) then
  bif Ei true (pY 32 [] h.Maps) then
   bif Ei true (nrz h.Tx) then
    bif Ei true (pY 248 [] h.Rx) then
     l0 h.nR h.nN h.nT h.Filter.Wj h.Filter.oH h.Filter.pE h.nk.oM h.nk.Table.nH h.nk.oa.Key h.nk.oa.Table h.oE h.tU h.oG h.oU (((oD h.Tx).Ring).oA) (((oD h.Tx).Ring).nG) (((oD h.Tx).Ring).Head) (((oD h.Tx).Ring).qQ) (((oD h.Tx).n9).oA) (((oD h.Tx).n9).nG) (((oD h.Tx).n9).Count) ((oD h.Tx).Next) h.p9 h.Counters.Frames h.Counters.Bad h.Counters.pX h.Counters.qz h.Counters.tz ((oD h.n_).nL) h.Maps (((oD h.Tx).n9).oe) ((oD h.Tx).nD) h.Rx 0 []
    else ke
   else ke
  else ke
 else ke
def neF (k_:nt→α) (N:Nat) (h:nt):α:=V6 ke k_ (fun qc pe ql qw qx qm pI pJ pM pK qn qo qp qq oh pg ph pj pk pn po pq oQ oT oY qK oR oS og ou oz n7 nZ=>uv ke k_ N qc pe ql qw qx qm pI pJ pM pK qn qo qp qq oh pg ph pj pk pn po pq oQ oT oY qK oR oS og ou oz n7 nZ N) h
theorem nrt (k_:nt→α) (h:nt) (h_h:kc nt.ct h.enc) (aJ:vq h=true):∃N,neF ke k_ N h=k_ (oD h):=by
 obtain⟨hl,hw⟩:=oJ (nt.Sg h_h)
 have HH:vq h=true:=aJ
 simp only[vq,Bool.and_eq_true] at HH
 obtain⟨s0,s1,s2,s3,s4,s5,s6,s7,s8,s9,s10,s11,s12,s13,s14,s15⟩:=HH
 simp only[Xn,Bool.and_eq_true,List.all_eq_true] at s5
 obtain⟨t1,t2⟩:=s5
 have l1:=sO t1
 have m2:nrz h.Tx=true:=by simp only[nrz,s2,s3,Bool.and_self]
 have r4:pY 248 [] h.Rx=true:=qy s4 (by omega)
 have r1:pY 32 [] h.Maps=true:=qy s1 (by omega)
 refine⟨h.nR.length+1, ?_⟩
 unfold neF V6
 rw[show vW h.n_=true from s0]
 simp only[m2,r4,r1,ng,cond_true]
 have key:∀(pe:Rows) (ql:Rows) (qw:Int) (qx:Bool) (qm:Rows) (pI:Rows) (pJ:Rows) (pM:Bytes) (pK:Rows) (qn:Rows) (qo:Rows) (qp:Rows) (qq:Rows) (oh:Int) (pg:Int) (ph:Int) (pj:Int) (pk:Int) (pn:Int) (po:Int) (pq:Int) (oQ:Bool) (oT:Int) (oY:Int) (qK:Int) (oR:Int) (oS:Int) (og:Rows) (ou:Rows) (oz:Rows) (n7:Rows) (nZ:Rows),sm pe=true→sm ql=true→sm qm=true→sm pI=true→sm pJ=true→sm pK=true→sm qn=true→sm qo=true→sm qp=true→sm qq=true→
   uv ke k_ (h.nR.length+1) h.nR pe ql qw qx qm pI pJ pM pK qn qo qp qq oh pg ph pj pk pn po pq oQ oT oY qK oR oS og ou oz n7 nZ (h.nR.length+1) 0 []=k_ (⟨(⟨og⟩:nc),ou,(⟨(⟨oh,pg,ph,pj⟩:nE),(⟨pk,pn,po,oz⟩:nj),n7,pq⟩:nv),nZ,h.nR,pe,ql,(⟨qw,qx,qm⟩:nF),(⟨pI,(⟨pJ⟩:ni),(⟨pM,pK⟩:nI)⟩:nm),qn,oQ,qo,qp,qq,(⟨oT,oY,qK,oR,oS⟩:ot)⟩:nt):=by
  intro pe ql qw qx qm pI pJ pM pK qn qo qp qq oh pg ph pj pk pn po pq oQ oT oY qK oR oS og ou oz n7 nZ q6 q7 q8 q9 q10 q11 q12 q13 q14 q15
  have u6:pY 40 [] pe=true:=qy q6 (by omega)
  have u7:pY 1 [] ql=true:=qy q7 (by omega)
  have u8:nii (⟨qw,qx,qm⟩:nF)=true:=q8
  have u9:ZS (⟨pI,(⟨pJ⟩:ni),(⟨pM,pK⟩:nI)⟩:nm)=true:=by simp only[ZS,q9,q10,q11,Bool.and_self]
  have u12:pY 72 [] qn=true:=qy q12 (by omega)
  have u13:pY 16 [] qo=true:=qy q13 (by omega)
  have u14:pY 8 [] qp=true:=qy q14 (by omega)
  have u15:pY 8 [] qq=true:=qy q15 (by omega)
  refine (yG h.nR.length (fun n i o=>uv ke k_ (h.nR.length+1) h.nR pe ql qw qx qm pI pJ pM pK qn qo qp qq oh pg ph pj pk pn po pq oQ oT oY qK oR oS og ou oz n7 nZ n i o) (fun i o=>o++[nth h.nR i]) (fun o=>k_ (⟨(⟨og⟩:nc),ou,(⟨(⟨oh,pg,ph,pj⟩:nE),(⟨pk,pn,po,oz⟩:nj),n7,pq⟩:nv),nZ,o,pe,ql,(⟨qw,qx,qm⟩:nF),(⟨pI,(⟨pJ⟩:ni),(⟨pM,pK⟩:nI)⟩:nm),qn,oQ,qo,qp,qq,(⟨oT,oY,qK,oR,oS⟩:ot)⟩:nt)) (fun i o=>o.length≤i) ?_ ?_ ?_ (h.nR.length+1) [] (by simp) (by omega)).trans ?_
  ·intro i o hi ho
   simp only[List.length_append,List.length_cons,List.length_nil];omega
  ·intro n i o hi ho
   show uv ke k_ (h.nR.length+1) h.nR pe ql qw qx qm pI pJ pM pK qn qo qp qq oh pg ph pj pk pn po pq oQ oT oY qK oR oS og ou oz n7 nZ (n+1) (i:Int) o=_
   rw[XB]
   have er:nj.enc (nj.nd (nth h.nR i) 0)=nth h.nR i:=nj.eta (hw _ (qi hi))
   have hb:we (nj.nd (nth h.nR i) 0)=true:=t2 _ (qi hi)
   have eI:∀x:List DC,pY 48 o [x]=true:=fun x=>wM (by simp only[List.length_cons,List.length_nil];omega) (by omega)
   simp only[NW,oD,pw hi,nY hi,hb,eI,er,oO hi hl,Int.toNat_natCast,ng,nn,cond_true]
  ·intro n o ho
   show uv ke k_ (h.nR.length+1) h.nR pe ql qw qx qm pI pJ pM pK qn qo qp qq oh pg ph pj pk pn po pq oQ oT oY qK oR oS og ou oz n7 nZ (n+1) (h.nR.length:Int) o=_
   rw[XB]
   simp only[NW,nX,cond_false,oD,u6,u7,u8,u9,u12,u13,u14,u15,q12,q13,q14,q15,ng,cond_true]
  ·exact congrArg (fun o=>k_ (⟨(⟨og⟩:nc),ou,(⟨(⟨oh,pg,ph,pj⟩:nE),(⟨pk,pn,po,oz⟩:nj),n7,pq⟩:nv),nZ,o,pe,ql,(⟨qw,qx,qm⟩:nF),(⟨pI,(⟨pJ⟩:ni),(⟨pM,pK⟩:nI)⟩:nm),qn,oQ,qo,qp,qq,(⟨oT,oY,qK,oR,oS⟩:ot)⟩:nt)) ((TV (fun (o:Rows) (r:List DC)=>o++[r]) h.nR [] []).trans ((foldl_push (fun r=>r) h.nR []).trans (by simp)))
 exact key _ _ _ _ _ _ _ _ _ _ _ _ _ _ _ _ _ _ _ _ _ _ _ _ _ _ _ _ _ _ _ _ s6 s7 s8 s9 s10 s11 s12 s13 s14 s15
def Uy {α:Type} (k_:nx→α) (v:nx):α:=
 bif bif due v then !v.T0 else false then k_ (⟨v.yu,v.OD,v.Count,v.Time,v.T0,true⟩:nx)
 else k_ v
def npe (v:nx):nx:=Uy id v
theorem npH {α:Type} (k_:nx→α) (v:nx):Uy k_ v=k_ (npe v):=by
 exact Ka rfl rfl
def ncq {α:Type} (k_:nx→α) (v:nx):α:=
 k_ (⟨bif v.P_ then v.yu else bif due v then v.yu else v.yu,bif v.P_ then v.OD else bif due v then v.OD else v.OD,bif v.P_ then v.Count else bif due v then v.Count else v.Count,bif v.P_ then v.Time else bif due v then v.Time else v.Time,bif v.P_ then v.T0 else bif due v then v.T0 else v.T0,bif v.P_ then true else bif due v then !v.T0 else false⟩:nx)
theorem noW {α:Type} (k_:nx→α) (v:nx):ncq k_ v=k_ (npe v):=by
 unfold ncq npe Uy
 obtain⟨a,b,c,d,e,f⟩:=v
 cases f
 ·cases due (⟨a,b,c,d,e,false⟩:nx)
  ·rfl
  ·cases e<;>rfl
 ·cases hd:(bif due (⟨a,b,c,d,e,true⟩:nx) then !(⟨a,b,c,d,e,true⟩:nx).T0 else false)<;>rfl
structure rq where
 Op:Int
 Flags:Int
 Len:Int
 At:Int
 nG:Int
 qf:Int
def rq.enc (x:rq):List DC:=[.int x.Op,.int x.Flags,.int x.Len,.int x.At,.int x.nG,.int x.qf]
def rq.nd (r:List DC) (o:Nat):rq:=⟨rI r (o+0),rI r (o+1),rI r (o+2),rI r (o+3),rI r (o+4),rI r (o+5)⟩
def rq.ct:List CT:=[.i,.i,.i,.i,.i,.i]
theorem rq.eta {r:List DC} (h:kc rq.ct r):(rq.nd r 0).enc=r:=(show (rq.nd r 0).enc=sN rq.ct r 0 from by kernel_rfl).trans (ra h)
theorem rq.nB {r:List CT} {ds:List DC} (h:kc (rq.ct++r) ds):∃(x:rq) (aX:List DC),ds=x.enc++aX∧kc rq.ct x.enc∧kc r aX:=by
 obtain⟨d1,d2,rfl,h1,h2⟩:=qt h
 exact⟨rq.nd d1 0,d2,by rw[rq.eta h1],by rw[rq.eta h1];exact h1,h2⟩
theorem rq.nwM {x:rq} (h:kc rq.ct x.enc):G9 .i (.int x.Flags):=oB 1 h rfl rfl
theorem rq.nxx {x:rq} (h:kc rq.ct x.enc):G9 .i (.int x.Len):=oB 2 h rfl rfl
theorem rq.nka {x:rq} (h:kc rq.ct x.enc):G9 .i (.int x.nG):=oB 4 h rfl rfl
theorem rq.ns3 {x:rq} (h:kc rq.ct x.enc):G9 .i (.int x.qf):=oB 5 h rfl rfl
def nin (k_:Int→α) (s:Bytes) (at_:Int):α:=
 bif bif decide (at_<0) then true else decide (nS ((len s) - 2)<at_) then k_ (-1)
 else bif Ei (Ei true (idx at_ s)) (idx (nS (at_+1)) s) then
   k_ (bits .or .i64 (ncv .i64 (nS (zQ s at_)) 8) (nS (zQ s (nS (at_+1)))))
  else ke
theorem nts (k_:Int→α) (s:Bytes) (at_:Int) (yZ:G9 .str (.str s)):nin ke k_ s at_=k_ (px s at_):=by
 have hl:=yR yZ
 have hl0:0≤len s:=by simp [len]
 have GL:len s≤9223372036854775807:=by simp only[len];omega
 unfold nin px
 have nxn:(bif decide (at_<0) then true else decide (nS (len s - 2)<at_))= !(qX s at_ 2):=by
  have h1:=within_iff (s:=s) (at_:=at_) (n:=2) hl
  rw[nP (n:=len s - 2) (by omega) (by omega)]
  cases hw:qX s at_ 2
  ·by_cases h0:at_<0
   ·simp [h0]
   ·by_cases h2:len s - 2<at_
    ·simp [h0,h2]
    ·rw[h1.2 (by omega)] at hw
     cases hw
  ·have:=h1.1 hw
   simp [show ¬at_<0 by omega,show ¬len s - 2<at_ by omega]
 rw[nxn]
 cases hw:qX s at_ 2
 ·rfl
 ·have hh:=(within_iff hl).1 hw
  have w1:nS (at_+1)=at_+1:=nP (by omega) (by omega)
  have dV:∀j:Int,0≤j→j<len s→idx j s=true:=by
   intro j h1 h2
   simp only[len] at h2
   simp only[idx,Bool.and_eq_true,decide_eq_true_eq]
   omega
  have b0:=tr s at_
  have c0:=vr s at_
  have b1:=tr s (at_+1)
  have c1:=vr s (at_+1)
  simp only[w1,dV at_ (by omega) (by omega),dV (at_+1) (by omega) (by omega),ng,cond_true,cond_false,Bool.not_true]
  rw[nP (n:=zQ s at_) (by omega) (by omega),nP (n:=zQ s (at_+1)) (by omega) (by omega),nwH,nP (n:=zQ s at_*256) (by omega) (by omega),Z8 8 (y:=zQ s (at_+1)) (by omega) (by omega) (by omega) (by omega) (by omega) (by omega)]
def nwt (s:Bytes):Int:=bif (px s 12)==33024 then 18 else 14
theorem nvD {e:sf} (h:nah e=true):0≤e.Dst∧e.Dst≤281474976710655∧0≤e.Src∧e.Src≤281474976710655∧46≤e.Body.length:=by
 unfold nah Z3 at h
 cases h1:nh e.Dst 0 281474976710655
 ·rw[h1] at h;cases h
 cases h2:nh e.Src 0 281474976710655
 ·rw[h1,h2] at h;cases h
 have a:=pA.1 h1
 have b:=pA.1 h2
 cases hb:nh (len e.Body) 46 400
 ·rw[hb] at h
  revert h
  cases nh e.Dst 0 281474976710655<;>cases nh e.Src 0 281474976710655<;>cases nh e.PJ (-1) 4095<;>cases nh e.nsM 1536 65535<;>cases e.nsM != 33024<;>simp
 ·have:=pA.1 hb
  simp only[len] at this
  omega
theorem nva {r:nE} (h:sR r=true):uc r.nG=true∧yw r=(r.qQ - r.Head) % (2*r.nG)∧yw r≤r.nG∧0≤r.Head∧r.Head<2*r.nG∧0≤r.qQ∧r.qQ<2*r.nG∧2≤r.nG∧r.nG≤16:=by
 have hs:=yv h
 unfold sR Rw at h
 simp only[id] at h
 rw[nP (n:=2*r.nG) (by omega) (by omega),nP (n:=2*r.nG - 1) (by omega) (by omega)] at h
 cases h1:uc r.nG
 ·rw[h1] at h
  revert h
  cases nh r.oA 0 130944<;>simp
 cases h2:nh r.Head 0 (2*r.nG - 1)
 ·rw[h1,h2] at h
  revert h
  cases nh r.oA 0 130944<;>simp
 cases h3:nh r.qQ 0 (2*r.nG - 1)
 ·rw[h1,h2,h3] at h
  revert h
  cases nh r.oA 0 130944<;>simp
 rw[h1,h2,h3] at h
 have h4:yw r≤r.nG:=by
  revert h
  cases nh r.oA 0 130944<;>simp
 have a:=pA.1 h2
 have b:=pA.1 h3
 refine⟨rfl, ?_,h4, ?_⟩
 ·unfold yw
  rw[h1]
  rfl
 ·omega
def xw {α:Type} (k_:Int→α) (r:nE):α:=
 bif !(sR r) then k_ 0
 else k_ (nS (r.nG - (yw r)))
def tx (r:nE):Int:=xw id r
theorem naL {α:Type} (k_:Int→α) (r:nE):xw k_ r=k_ (tx r):=by
 exact Ka rfl rfl
def RV {α:Type} (k_:Int→α) (p:nj) (k:Int):α:=
 bif bif !(qP p) then true else !(nh k 0 (nS (p.Count - 1))) then k_ (-1)
 else k_ (nS (p.oA+(nS (k*p.nG))))
def pL (p:nj) (k:Int):Int:=RV id p k
theorem RT {α:Type} (k_:Int→α) (p:nj) (k:Int):RV k_ p k=k_ (pL p k):=by
 exact Ka rfl rfl
def nfE {α:Type} (k_:Bool→α) (x:rq):α:=
 k_ (bif nh x.Op 0 3 then bif nh x.Flags 0 3 then bif nh x.Len 0 65535 then bif nh x.nG 0 65535 then bif nh x.qf 0 65535 then nh x.At 0 4294967295 else false else false else false else false else false)
def ns6 (x:rq):Bool:=nfE id x
theorem nfD {α:Type} (k_:Bool→α) (x:rq):nfE k_ x=k_ (ns6 x):=by
 rfl
def Uk (k_:Int→α) (r:nE) (count:Int):α:=
 bif bif !(sR r) then true else decide (count<0) then k_ (-1)
 else bif Ei true (!(r.nG==0)) then
   k_ (nS (r.oA+(nS ((Int.tmod count r.nG)*16))))
  else ke
def sj (r:nE) (count:Int):Int:=bif bif !(sR r) then true else decide (count<0) then -1 else nS (r.oA+nS (Int.tmod count r.nG*16))
theorem ngK (k_:Int→α) (r:nE) (count:Int):Uk ke k_ r count=k_ (sj r count):=by
 unfold Uk sj
 refine pH (fun _=>rfl) (fun hg=> ?_)
 have hr:sR r=true:=by
  revert hg
  cases sR r<;>simp
 have hs:=yv hr
 have hz:(!(r.nG==0))=true:=by simp;omega
 simp only[hz,ng,cond_true]
def VO (k_:Int→α) (r:nE) (count:Int):α:=
 bif bif !(sR r) then true else decide (count<0) then k_ (-1)
 else bif Ei true (!(r.nG==0)) then
   k_ (nS (r.oA+(nS (16*(Int.tmod count r.nG)))))
  else ke
theorem nhM (k_:Int→α) (r:nE) (count:Int):VO ke k_ r count=k_ (sj r count):=by
 unfold VO sj
 refine pH (fun _=>rfl) (fun hg=> ?_)
 have hr:sR r=true:=by
  revert hg
  cases sR r<;>simp
 have hs:=yv hr
 have hz:(!(r.nG==0))=true:=by simp;omega
 simp only[hz,ng,cond_true,Int.mul_comm 16]
def Wm (k_:Bytes→α) (x:rq):α:=
 let z0:Bytes:=(toStr ([[.int (IntKind.wrap .u8 x.Op)],[.int (IntKind.wrap .u8 x.Flags)]]))++(oK x.Len)
 let z1:Bytes:=z0++(qv x.At)
 let z2:Bytes:=z1++(oK x.nG)
 let z3:Bytes:=z2++(oK x.qf)
 bif !(ns6 x) then k_ []
 else bif Ei (Ei (Ei (Ei (Ei true (oZ (toStr ([[.int (IntKind.wrap .u8 x.Op)],[.int (IntKind.wrap .u8 x.Flags)]])) (oK x.Len))) (oZ z0 (qv x.At))) (oZ z1 (oK x.nG))) (oZ z2 (oK x.qf))) (oZ z3 (qv 0)) then
   k_ (z3++(qv 0))
  else ke
def sD (x:rq):Bytes:=bif !(ns6 x) then [] else toStr ([[.int (IntKind.wrap .u8 x.Op)],[.int (IntKind.wrap .u8 x.Flags)]])++oK x.Len++qv x.At++oK x.nG++oK x.qf++qv 0
theorem Wl (k_:Bytes→α) (x:rq):Wm ke k_ x=k_ (sD x):=by
 have a:=pd x.Len
 have b:=rp x.At
 have c:=pd x.nG
 have d:=pd x.qf
 have e:=rp 0
 unfold Wm sD
 refine pH (fun _=>rfl) (fun hg=> ?_)
 refine pT (by simp only[gr,oZ,ss,List.length_append,tL,List.length_cons,List.length_nil,decide_eq_true_eq,true_and,and_true];omega) rfl
theorem ns1:∀(m a:Nat) (s:Bytes) (l:Rows),(nl8 m a s l).length=l.length
 | 0,_,_,_=>rfl
 | m+1,a,s,l=>by
  unfold nl8
  cases decide (0<s.length)
  ·rfl
  ·rw[cond_true,ns1 m]
   simp [Ro]
theorem nke (m:nc) (a:Int) (s:Bytes):(qA m a s).1.nL.length=m.nL.length:=by
 unfold qA
 cases !(within m a (len s))
 ·exact ns1 _ _ _ _
 ·rfl
theorem nsW:∀(r:Rows) (s:Bytes) (l:Rows),(nsz r s l).length=l.length
 | [],_,_=>rfl
 | r::rs,s,l=>by
  unfold nsz
  rw[nsW rs,nke]
theorem nwE (l:Rows) (m:nc) (d a:Int) (s:Bytes) (w:Bool):(put l m d a s w).1.nL.length=m.nL.length:=by
 unfold put
 cases !(rN l m d a (len s) w).2
 ·exact nsW _ _ _
 ·rfl
theorem nxt {l:Rows} {m:nc} {d a:Int} {s:Bytes} {w:Bool} (h:(put l m d a s w).2=false):(put l m d a s w).1=m:=by
 unfold put at h ⊢
 cases hr:(rN l m d a (len s) w).2
 ·rfl
 ·rw[hr] at h;cases h
def ncW (k_:nc→nE→Bool→α) (na:Rows) (m:nc) (domain:Int) (r:nE) (entry:Bytes):α:=
 let z0:nc×Bool:=tS na m domain (sj r r.qQ) entry
 bif bif (tx r)==0 then true else (len entry) != 16 then
  bif Ei true (vW m) then
   k_ (oD m) r false
  else ke
 else bif Ei true (wU na m domain (sj r r.qQ) entry) then
   bif !z0.2 then k_ z0.1 r false
   else bif Ei true (!((nS (2*r.nG))==0)) then
     k_ z0.1 (⟨r.oA,r.nG,r.Head,Int.tmod (nS (r.qQ+1)) (nS (2*r.nG))⟩:nE) true
    else ke
  else ke
def NZ {α:Type} (na:Rows) (m:nc) (domain:Int) (r:nE) (entry:α):Bool:=sm m.nL
def sa (na:Rows) (m:nc) (domain:Int) (r:nE) (entry:Bytes):nc×nE×Bool:=
 bif bif (tx r)==0 then true else (len entry) != 16 then (m,r,false)
 else bif !(tS na m domain (sj r r.qQ) entry).2 then (m,r,false)
 else ((tS na m domain (sj r r.qQ) entry).1,⟨r.oA,r.nG,r.Head,Int.tmod (nS (r.qQ+1)) (nS (2*r.nG))⟩,true)
theorem ZX (na:Rows) (m:nc) (domain:Int) (r:nE) (entry:Bytes):(sa na m domain r entry).1.nL.length=m.nL.length:=by
 unfold sa
 cases (bif (tx r)==0 then true else (len entry) != 16)
 ·cases !(tS na m domain (sj r r.qQ) entry).2
  ·exact nwE _ _ _ _ _ _
  ·rfl
 ·rfl
theorem npx (k_:nc→nE→Bool→α) (na:Rows) (m:nc) (domain:Int) (r:nE) (entry:Bytes) (aJ:NZ na m domain r entry=true):ncW ke k_ na m domain r entry=k_ (sa na m domain r entry).1 (sa na m domain r entry).2.1 (sa na m domain r entry).2.2:=by
 have hm:vW m=true:=aJ
 have hdw:∀a,wU na m domain a entry=true:=fun a=>aJ
 unfold ncW sa
 dsimp only
 refine pH (K:=fun r:nc×nE×Bool=>k_ r.1 r.2.1 r.2.2) (fun _=>by rw[hm];rfl) (fun hg=> ?_)
 rw[hdw]
 simp only[ng,cond_true]
 have hr:sR r=true:=by
  revert hg
  unfold tx xw
  cases sR r<;>simp
 have hs:=yv hr
 have hz:(!((nS (2*r.nG))==0))=true:=by
  rw[nP (by omega) (by omega)]
  simp;omega
 refine pH (K:=fun r:nc×nE×Bool=>k_ r.1 r.2.1 r.2.2) (fun hn=> ?_) (fun _=>by rw[hz];rfl)
 have hn:(tS na m domain (sj r r.qQ) entry).2=false:=by simpa using hn
 rw[show (tS na m domain (sj r r.qQ) entry).1=m from nxt hn]
def nd7 (k_:nc→nE→Bool→α) (na:Rows) (m:nc) (domain:Int) (r:nE) (entry:Bytes):α:=
 let z0:nc×Bool:=tS na m domain (sj r r.qQ) entry
 bif bif (tx r)==0 then true else (len entry) != 16 then
  bif Ei true (vW m) then
   k_ (oD m) r false
  else ke
 else bif Ei true (wU na m domain (sj r r.qQ) entry) then
   bif !z0.2 then
    bif Ei true (vW m) then
     k_ (oD m) r false
    else ke
   else bif Ei true (!((nS (2*r.nG))==0)) then
     k_ z0.1 (⟨r.oA,r.nG,r.Head,Int.tmod (nS (r.qQ+1)) (nS (2*r.nG))⟩:nE) true
    else ke
  else ke
theorem nq3 (k_:nc→nE→Bool→α) (na:Rows) (m:nc) (domain:Int) (r:nE) (entry:Bytes) (aJ:NZ na m domain r entry=true):nd7 ke k_ na m domain r entry=k_ (sa na m domain r entry).1 (sa na m domain r entry).2.1 (sa na m domain r entry).2.2:=by
 have hm:vW m=true:=aJ
 have hdw:∀a,wU na m domain a entry=true:=fun a=>aJ
 unfold nd7 sa
 dsimp only
 refine pH (K:=fun r:nc×nE×Bool=>k_ r.1 r.2.1 r.2.2) (fun _=>by rw[hm];rfl) (fun hg=> ?_)
 rw[hdw]
 simp only[ng,cond_true]
 have hr:sR r=true:=by
  revert hg
  unfold tx xw
  cases sR r<;>simp
 have hs:=yv hr
 have hz:(!((nS (2*r.nG))==0))=true:=by
  rw[nP (by omega) (by omega)]
  simp;omega
 refine pH (K:=fun r:nc×nE×Bool=>k_ r.1 r.2.1 r.2.2) (fun hn=> ?_) (fun _=>by rw[hz];rfl)
 rw[hm];rfl
theorem Ts {b:Bool} (h:(!b)=false):b=true:=by cases b<;>simp_all
theorem uX {b:Bool} (h:b=true):Ei true b=true:=by rw[h];rfl
def naI (k_:sf→Bool→α) (s:Bytes):α:=
 let z0:sf:=(⟨0,0,0,0,[]⟩:sf)
 let z1:Int:=bits .or .i64 (ncv .i64 (px s 0) 32) (tT s 2)
 let z2:Int:=bits .or .i64 (ncv .i64 (px s 6) 32) (tT s 8)
 let z3:sf:=(⟨z1,z2,px s 14,px s 16,tu s 18⟩:sf)
 let z4:sf:=(⟨z1,z2,(-1),px s 12,tu s 14⟩:sf)
 bif decide (len s<14) then k_ z0 false
 else bif Ei true (QK s 14) then
   bif bif (px s 12)==33024 then decide (18≤len s) else false then
    bif Ei true (QK s 18) then
     bif !(nah z3) then k_ z0 false
     else k_ z3 true
    else ke
   else bif !(nah z4) then k_ z0 false
   else k_ z4 true
  else ke
theorem nvt (a:Int):ncv .i64 a 32=nS (a*4294967296):=rfl
theorem neN (s:Bytes) (a:Int): -1≤px s a∧px s a≤65535:=by
 have b0:=tr s a
 have c0:=vr s a
 have b1:=tr s (a+1)
 have c1:=vr s (a+1)
 unfold px
 cases !(qX s a 2)<;>simp only[cond_true,cond_false]<;>omega
theorem neM {s:Bytes} {a:Int} (h0:0≤a) (h:a+2≤len s) (hs:s.length≤9223372036854775807):0≤px s a:=by
 have b0:=tr s a
 have b1:=tr s (a+1)
 unfold px
 rw[(within_iff hs).2 ⟨h0,by omega,h⟩]
 simp only[Bool.not_true,cond_false]
 omega
theorem neO {s:Bytes} {a:Int} (h0:0≤a) (h:a+4≤len s):0≤tT s a:=by
 have b0:=tr s a
 have b1:=tr s (a+1)
 have b2:=tr s (a+2)
 have b3:=tr s (a+3)
 unfold tT
 rw[decide_eq_false (show ¬a<0 by omega),decide_eq_false (show ¬len s<a+4 by omega)]
 simp only[cond_false]
 omega
theorem neP (s:Bytes) (a:Int): -1≤tT s a∧tT s a≤4294967295:=by
 have b0:=tr s a
 have c0:=vr s a
 have b1:=tr s (a+1)
 have c1:=vr s (a+1)
 have b2:=tr s (a+2)
 have c2:=vr s (a+2)
 have b3:=tr s (a+3)
 have c3:=vr s (a+3)
 unfold tT
 cases (bif decide (a<0) then true else decide (len s<a+4))<;>simp only[cond_true,cond_false]<;>omega
def nvk (s:Bytes):sf:=⟨px s 0*4294967296+tT s 2,px s 6*4294967296+tT s 8,bif (px s 12)==33024 then px s 14 else -1,bif (px s 12)==33024 then px s 16 else px s 12,s.drop (nwt s).toNat⟩
def rQ (s:Bytes):sf×Bool:=bif decide (len s<18) then (⟨0,0,0,0,[]⟩,false) else bif !(nah (nvk s)) then (⟨0,0,0,0,[]⟩,false) else (nvk s,true)
theorem nuC {e:sf} (h:nah e=true):46≤e.Body.length:=(nvD h).2.2.2.2
theorem nmN (k_:sf→Bool→α) (s:Bytes) (yZ:G9 .str (.str s)):naI ke k_ s=k_ (rQ s).1 (rQ s).2:=by
 have hl:=yR yZ
 unfold naI rQ
 dsimp only
 by_cases h14:len s<14
 ·rw[decide_eq_true h14,decide_eq_true (show len s<18 by omega)]
  rfl
 rw[decide_eq_false h14,cond_false]
 by_cases h18:len s<18
 ·have g1:QK s 14=true:=by simp only[len] at h14;simp only[QK,Bool.and_eq_true,decide_eq_true_eq];omega
  have g3:∀e:sf,e.Body=tu s 14→nah e=false:=by
   intro e he
   cases h:nah e
   ·rfl
   ·have:=nuC h
    rw[he] at this
    simp only[tu,List.take_length,List.length_drop] at this
    simp only[len] at h18 h14
    omega
  have g4:(bif (px s 12)==33024 then decide (18≤len s) else false)=false:=by
   rw[decide_eq_false (show ¬18≤len s by omega)]
   cases (px s 12)==33024<;>rfl
  rw[decide_eq_true h18,g4,g1]
  simp only[ng,cond_true,cond_false]
  rw[g3 _ rfl]
  rfl
 have h18:18≤len s:=by omega
 rw[decide_eq_true h18,decide_eq_false (show ¬len s<18 by omega),cond_false]
 have g1:QK s 14=true:=by simp only[len] at h18;simp only[QK,Bool.and_eq_true,decide_eq_true_eq];omega
 have g2:QK s 18=true:=by simp only[len] at h18;simp only[QK,Bool.and_eq_true,decide_eq_true_eq];omega
 have e1:tu s 14=s.drop 14:=by simp [tu]
 have e2:tu s 18=s.drop 18:=by simp [tu]
 have r0:=neN s 0
 have r1:=neN s 6
 have p0:=neM (s:=s) (a:=0) (by omega) (by omega) hl
 have p1:=neM (s:=s) (a:=6) (by omega) (by omega) hl
 have q0:=neP s 2
 have q1:=neP s 8
 have t0:=neO (s:=s) (a:=2) (by omega) (by omega)
 have t1:=neO (s:=s) (a:=8) (by omega) (by omega)
 rw[nvt,nvt,nP (n:=px s 0*4294967296) (by omega) (by omega),nP (n:=px s 6*4294967296) (by omega) (by omega)]
 rw[Z8 32 (x:=px s 0*4294967296) (by omega) (by omega) (by omega) (by omega) (by omega) (by omega),Z8 32 (x:=px s 6*4294967296) (by omega) (by omega) (by omega) (by omega) (by omega) (by omega)]
 rw[show (bif (px s 12)==33024 then true else false)=((px s 12)==33024) by cases (px s 12)==33024<;>rfl]
 simp only[g1,g2,e1,e2,ng,cond_true]
 unfold nvk nwt
 cases (px s 12)==33024
 ·simp only[cond_false]
  exact Ka (K:=fun z:sf×Bool=>k_ z.1 z.2) rfl rfl
 ·simp only[cond_true]
  exact Ka (K:=fun z:sf×Bool=>k_ z.1 z.2) rfl rfl
def nb7 (k_:sf→Bool→α) (s:Bytes):α:=
 let z0:sf:=(⟨0,0,0,0,[]⟩:sf)
 let z1:Int:=nS ((ncv .i64 (px s 0) 32)+(tT s 2))
 let z2:Int:=nS ((ncv .i64 (px s 6) 32)+(tT s 8))
 let z3:sf:=(⟨z1,z2,px s 14,px s 16,tu s 18⟩:sf)
 let z4:sf:=(⟨z1,z2,(-1),px s 12,tu s 14⟩:sf)
 bif decide (len s<18) then k_ z0 false
 else bif Ei true (QK s 14) then
   bif (px s 12)==33024 then
    bif Ei true (QK s 18) then
     bif !(nah z3) then k_ z0 false
     else k_ z3 true
    else ke
   else bif !(nah z4) then k_ z0 false
   else k_ z4 true
  else ke
theorem noC (k_:sf→Bool→α) (s:Bytes) (yZ:G9 .str (.str s)):nb7 ke k_ s=k_ (rQ s).1 (rQ s).2:=by
 have hl:=yR yZ
 unfold nb7 rQ
 dsimp only
 refine pH (K:=fun z:sf×Bool=>k_ z.1 z.2) (fun _=>rfl) (fun hg=> ?_)
 have h18:18≤len s:=by
  have:=of_decide_eq_false hg
  omega
 have g1:QK s 14=true:=by simp only[len] at h18;simp only[QK,Bool.and_eq_true,decide_eq_true_eq];omega
 have g2:QK s 18=true:=by simp only[len] at h18;simp only[QK,Bool.and_eq_true,decide_eq_true_eq];omega
 have e1:tu s 14=s.drop 14:=by simp [tu]
 have e2:tu s 18=s.drop 18:=by simp [tu]
 have r0:=neN s 0
 have r1:=neN s 6
 have p0:=neM (s:=s) (a:=0) (by omega) (by omega) hl
 have p1:=neM (s:=s) (a:=6) (by omega) (by omega) hl
 have q0:=neP s 2
 have q1:=neP s 8
 have t0:=neO (s:=s) (a:=2) (by omega) (by omega)
 have t1:=neO (s:=s) (a:=8) (by omega) (by omega)
 rw[nvt,nvt,nP (n:=px s 0*4294967296) (by omega) (by omega),nP (n:=px s 6*4294967296) (by omega) (by omega)]
 rw[nP (n:=px s 0*4294967296+tT s 2) (by omega) (by omega),nP (n:=px s 6*4294967296+tT s 8) (by omega) (by omega)]
 simp only[g1,g2,e1,e2,ng,cond_true]
 unfold nvk nwt
 cases (px s 12)==33024
 ·simp only[cond_false]
  exact Ka (K:=fun z:sf×Bool=>k_ z.1 z.2) rfl rfl
 ·simp only[cond_true]
  exact Ka (K:=fun z:sf×Bool=>k_ z.1 z.2) rfl rfl
def ncT (k_:wS→Bool→α) (s:Bytes):α:=
 let z0:wS:=(⟨0,0,0,0,0,0,[]⟩:wS)
 let z1:wS:=(⟨nS (zQ s 1),px s 4,nS (zQ s 8),nS (zQ s 9),tT s 12,tT s 16,nmv s 20 (px s 2)⟩:wS)
 let z2:Bytes×Bool:=Wh z1
 let z3:Bool:= !z2.2
 bif bif decide (len s<20) then true else bif decide (px s 2<20) then true else decide (len s<px s 2) then k_ z0 false
 else bif Ei (Ei (Ei (Ei true (idx 1 s)) (idx 8 s)) (idx 9 s)) (ntD s 20 (px s 2)) then
   bif L1 z3 true (Ei true (okH s (px s 2))) then
    bif bif z3 then true else !(z2.1==(X1 s (px s 2))) then k_ z0 false
    else k_ z1 true
   else ke
  else ke
def nxq (s:Bytes):wS:=⟨nS (zQ s 1),px s 4,nS (zQ s 8),nS (zQ s 9),tT s 12,tT s 16,nmv s 20 (px s 2)⟩
def wV (s:Bytes):wS×Bool:=bif bif decide (len s<20) then true else bif decide (px s 2<20) then true else decide (len s<px s 2) then (⟨0,0,0,0,0,0,[]⟩,false)
 else bif bif !(Wh (nxq s)).2 then true else !((Wh (nxq s)).1==(X1 s (px s 2))) then (⟨0,0,0,0,0,0,[]⟩,false) else (nxq s,true)
theorem ncS (k_:wS→Bool→α) (s:Bytes) (yZ:G9 .str (.str s)):ncT ke k_ s=k_ (wV s).1 (wV s).2:=by
 have hl:=yR yZ
 unfold ncT wV
 dsimp only
 refine pH (K:=fun z:wS×Bool=>k_ z.1 z.2) (fun _=>rfl) (fun hg=> ?_)
 have hh:20≤len s∧20≤px s 2∧px s 2≤len s:=by
  by_cases h1:len s<20
  ·rw[decide_eq_true h1] at hg;cases hg
  by_cases h2:px s 2<20
  ·rw[decide_eq_false h1,decide_eq_true h2] at hg;cases hg
  by_cases h3:len s<px s 2
  ·rw[decide_eq_false h1,decide_eq_false h2,decide_eq_true h3] at hg;cases hg
  omega
 obtain⟨h1,h2,h3⟩:=hh
 have dV:∀j:Int,0≤j→j<20→idx j s=true:=by
  intro j i1 i2
  simp only[len] at h1
  simp only[idx,Bool.and_eq_true,decide_eq_true_eq]
  omega
 have g1:ntD s 20 (px s 2)=true:=by simp only[len] at h3;simp only[ntD,Bool.and_eq_true,decide_eq_true_eq];omega
 have g2:okH s (px s 2)=true:=by simp only[len] at h3;simp only[okH,Bool.and_eq_true,decide_eq_true_eq];omega
 refine pT (by rw[dV 1 (by omega) (by omega),dV 8 (by omega) (by omega),dV 9 (by omega) (by omega),g1];rfl) ?_
 refine pT (Xj (fun _=>rfl) (fun _=>uX g2)) ?_
 exact Ka (K:=fun z:wS×Bool=>k_ z.1 z.2) rfl rfl
def S0 (k_:nA→Bool→α) (src dst kind:Int) (s:Bytes):α:=
 let z0:nA:=(⟨kind,px s 0,px s 2,tT s 4,tT s 8,nS (zQ s 13),px s 14,tu s 20⟩:nA)
 let z1:Bytes×Bool:=sC src dst z0
 let z2:nA:=(⟨0,0,0,0,0,0,0,[]⟩:nA)
 let z3:nA:=(⟨kind,px s 0,px s 2,0,0,0,0,tu s 8⟩:nA)
 let z4:Bytes×Bool:=sC src dst z3
 bif bif kind==6 then decide (20≤len s) else false then
  bif Ei true (idx 13 s) then
   bif Ei true (QK s 20) then
    bif bif !z1.2 then true else !(z1.1==s) then k_ z2 false
    else k_ z0 true
   else ke
  else ke
 else bif bif kind==17 then decide (8≤len s) else false then
  bif Ei true (QK s 8) then
   bif bif !z4.2 then true else !(z4.1==s) then k_ z2 false
   else k_ z3 true
  else ke
 else k_ z2 false
def nxW (kind:Int) (s:Bytes):nA:=⟨kind,px s 0,px s 2,tT s 4,tT s 8,nS (zQ s 13),px s 14,tu s 20⟩
def nxX (kind:Int) (s:Bytes):nA:=⟨kind,px s 0,px s 2,0,0,0,0,tu s 8⟩
def nwG (src dst:Int) (s:Bytes) (q:nA):nA×Bool:=bif bif !(sC src dst q).2 then true else !((sC src dst q).1==s) then (⟨0,0,0,0,0,0,0,[]⟩,false) else (q,true)
def yT (src dst kind:Int) (s:Bytes):nA×Bool:=bif bif kind==6 then decide (20≤len s) else false then nwG src dst s (nxW kind s)
 else bif bif kind==17 then decide (8≤len s) else false then nwG src dst s (nxX kind s) else (⟨0,0,0,0,0,0,0,[]⟩,false)
theorem SZ (k_:nA→Bool→α) (src dst kind:Int) (s:Bytes) (yZ:G9 .str (.str s)):S0 ke k_ src dst kind s=k_ (yT src dst kind s).1 (yT src dst kind s).2:=by
 have hl:=yR yZ
 unfold S0 yT
 dsimp only
 refine pH (K:=fun z:nA×Bool=>k_ z.1 z.2) (fun hg=> ?_) (fun _=> ?_)
 ·have h20:20≤len s:=by
   revert hg
   cases kind==6
   ·intro h;cases h
   ·exact of_decide_eq_true
  have g1:idx 13 s=true:=by simp only[len] at h20;simp only[idx,Bool.and_eq_true,decide_eq_true_eq];omega
  have g2:QK s 20=true:=by simp only[len] at h20;simp only[QK,Bool.and_eq_true,decide_eq_true_eq];omega
  refine pT (uX g1) (pT (uX g2) ?_)
  exact Ka (K:=fun z:nA×Bool=>k_ z.1 z.2) rfl rfl
 ·refine pH (K:=fun z:nA×Bool=>k_ z.1 z.2) (fun hg=> ?_) (fun _=>rfl)
  have h8:8≤len s:=by
   revert hg
   cases kind==17
   ·intro h;cases h
   ·exact of_decide_eq_true
  have g2:QK s 8=true:=by simp only[len] at h8;simp only[QK,Bool.and_eq_true,decide_eq_true_eq];omega
  refine pT (uX g2) ?_
  exact Ka (K:=fun z:nA×Bool=>k_ z.1 z.2) rfl rfl
def Yk {α:Type} (k_:nC→Int→α) (s:Bytes):α:=
 let z0:nC:=(⟨0,0,0,0,0,0,0,0,(⟨0,0,0,0,0,0,0,[]⟩:nA)⟩:nC)
 let z1:nA×Bool:=yT (((wV (((rQ s).1).Body)).1).Src) (((wV (((rQ s).1).Body)).1).Dst) (((wV (((rQ s).1).Body)).1).no7) (((wV (((rQ s).1).Body)).1).Body)
 let z2:nC:=(⟨((rQ s).1).Dst,((rQ s).1).Src,((rQ s).1).PJ,((wV (((rQ s).1).Body)).1).Tos,((wV (((rQ s).1).Body)).1).Id,((wV (((rQ s).1).Body)).1).Ttl,((wV (((rQ s).1).Body)).1).Src,((wV (((rQ s).1).Body)).1).Dst,z1.1⟩:nC)
 bif bif !((rQ s).2) then true else (((rQ s).1).nsM) != 2048 then k_ z0 2
 else bif !((wV (((rQ s).1).Body)).2) then k_ z0 3
 else bif !z1.2 then k_ z0 4
 else bif !(yU z2) then k_ z0 5
 else k_ z2 0
def ud (s:Bytes):nC×Int:=Yk (fun r0 r1=>(r0,r1)) s
theorem Yj {α:Type} (k_:nC→Int→α) (s:Bytes):Yk k_ s=k_ (ud s).1 (ud s).2:=by
 exact Ka (K:=fun r:nC×Int=>k_ r.1 r.2) rfl (Ka (K:=fun r:nC×Int=>k_ r.1 r.2) rfl (Ka (K:=fun r:nC×Int=>k_ r.1 r.2) rfl (Ka (K:=fun r:nC×Int=>k_ r.1 r.2) rfl rfl)))
def y4 (k_:nc→nE→nj→Int→α) (na:Rows) (domain:Int) (x:Rows) (oy p_1 p_2 Pq:Int) (PL:Rows) (sk pB pC:Int) (oP:Int→Int→Int→Int→Int→Int→Rows→α) (n oN r_1 r_2 r_3 r_4:Int) (og:Rows):α:=
 let z0:Bytes:=sD (⟨3,0,p_2,pL (⟨p_1,p_2,Pq,PL⟩:nj) (rI (nth x (Int.toNat oN)) 0),0,rI (nth x (Int.toNat oN)) 0⟩:rq)
 let z1:nc×nE×Bool:=sa na (⟨og⟩:nc) domain (⟨r_1,r_2,r_3,r_4⟩:nE) z0
 let z2:Bool:=Ei (Ei true (QK PL n)) (sm (tu PL n))
 let z3:nj:=(⟨sk,pB,pC,oD (tu PL n)⟩:nj)
 let z4:nE:=z1.2.1
 bif decide (oN<oy) then
  bif Ei true (idx oN x) then
   bif Ei true (NZ na (⟨og⟩:nc) domain (⟨r_1,r_2,r_3,r_4⟩:nE) z0) then
    bif !z1.2.2 then
     bif z2 then
      k_ (⟨og⟩:nc) (⟨r_1,r_2,r_3,r_4⟩:nE) z3 n
     else ke
    else oP (nS (n+1)) (nS (oN+1)) z4.oA z4.nG z4.Head z4.qQ z1.1.nL
   else ke
  else ke
 else bif z2 then
   k_ (⟨og⟩:nc) (⟨r_1,r_2,r_3,r_4⟩:nE) z3 n
  else ke
def y3 (k_:nc→nE→nj→Int→α) (N:Nat) (na:Rows) (domain:Int) (x:Rows) (oy p_1 p_2 Pq:Int) (PL:Rows) (sk pB pC:Int) (m_:Nat):Int→Int→Int→Int→Int→Int→Rows→α:=
 Nat.rec (motive:=fun _=>Int→Int→Int→Int→Int→Int→Rows→α) (fun _ _ _ _ _ _ _=>ke) (fun _ oP=>y4 ke k_ na domain x oy p_1 p_2 Pq PL sk pB pC oP) m_
theorem Ub (k_:nc→nE→nj→Int→α) (N:Nat) (na:Rows) (domain:Int) (x:Rows) (oy p_1 p_2 Pq:Int) (PL:Rows) (sk pB pC:Int) (m_:Nat):y3 ke k_ N na domain x oy p_1 p_2 Pq PL sk pB pC (m_+1)=y4 ke k_ na domain x oy p_1 p_2 Pq PL sk pB pC (y3 ke k_ N na domain x oy p_1 p_2 Pq PL sk pB pC m_):=rfl
def Sk (k_:nc→nE→nj→Int→α) (l0:Rows→Int→Int→Int→Int→Rows→Int→Int→Int→Int→Int→Int→Int→Int→Int→Rows→α) (na:Rows) (m:nc) (domain:Int) (r:nE) (p:nj):α:=
 bif Ei (Ei true (vW m)) (we p) then
  bif bif !(sR r) then true else !(qP p) then k_ (oD m) r (oD p) 0
  else l0 p.oe (len p.oe) p.oA p.nG p.Count p.oe ((oD p).oA) ((oD p).nG) ((oD p).Count) 0 0 r.oA r.nG r.Head r.qQ ((oD m).nL)
 else ke
def nau (k_:nc→nE→nj→Int→α) (N:Nat) (na:Rows) (m:nc) (domain:Int) (r:nE) (p:nj):α:=Sk ke k_ (fun x oy p_1 p_2 Pq PL sk pB pC=>y3 ke k_ N na domain x oy p_1 p_2 Pq PL sk pB pC N) na m domain r p
def T5 {α:Type} (na:Rows) (m:nc) (domain:Int) (r:α) (p:nj):Bool:=vW m && we p
def nph (na:Rows) (domain:Int) (p:nj):Rows→Int→nc→nE→nc×nE×nj×Int
 | [],n,m,r=>(m,r,⟨p.oA,p.nG,p.Count,[]⟩,n)
 | k::ks,n,m,r=>
  bif !(sa na m domain r (sD ⟨3,0,p.nG,pL p (rI k 0),0,rI k 0⟩)).2.2 then (m,r,⟨p.oA,p.nG,p.Count,k::ks⟩,n)
  else nph na domain p ks (nS (n+1)) (sa na m domain r (sD ⟨3,0,p.nG,pL p (rI k 0),0,rI k 0⟩)).1 (sa na m domain r (sD ⟨3,0,p.nG,pL p (rI k 0),0,rI k 0⟩)).2.1
def sd (na:Rows) (m:nc) (domain:Int) (r:nE) (p:nj):nc×nE×nj×Int:=bif bif !(sR r) then true else !(qP p) then (m,r,p,0) else nph na domain p p.oe 0 m r
theorem nt6 (l:Rows) (d:Int) (p:nj):∀(ks:Rows) (n:Int) (m:nc) (r:nE),(nph l d p ks n m r).1.nL.length=m.nL.length∧(nph l d p ks n m r).2.2.1.oe.length≤ks.length
 | [],_,_,_=>⟨rfl,Nat.le_refl _⟩
 | k::ks,n,m,r=>by
  simp only[nph]
  cases (sa l m d r (sD ⟨3,0,p.nG,pL p (rI k 0),0,rI k 0⟩)).2.2
  ·exact⟨rfl,Nat.le_refl _⟩
  ·obtain⟨h1,h2⟩:=nt6 l d p ks (nS (n+1)) (sa l m d r (sD ⟨3,0,p.nG,pL p (rI k 0),0,rI k 0⟩)).1 (sa l m d r (sD ⟨3,0,p.nG,pL p (rI k 0),0,rI k 0⟩)).2.1
   rw[ZX] at h1
   exact⟨h1,Nat.le_succ_of_le h2⟩
theorem ns7 (l:Rows) (m:nc) (d:Int) (r:nE) (p:nj):(sd l m d r p).1.nL.length=m.nL.length∧(sd l m d r p).2.2.1.oe.length≤p.oe.length:=by
 unfold sd
 cases (bif !(sR r) then true else !(qP p))
 ·exact nt6 _ _ _ _ _ _ _
 ·exact⟨rfl,Nat.le_refl _⟩
theorem nt1 {l:Rows} {m:nc} {d:Int} {r:nE} {e:Bytes} (h:decide (0<tx r)=false):(sa l m d r e).2.2=false:=by
 have hz:tx r=0:=by
  have h:=of_decide_eq_false h
  unfold tx xw at h ⊢
  cases hr:sR r
  ·rfl
  ·obtain⟨f1,f2,f3,f4,f5,f6,f7,f8,f9⟩:=nva hr
   have p1:=Int.emod_nonneg (r.qQ - r.Head) (show 2*r.nG≠0 by omega)
   rw[hr] at h
   simp only[Bool.not_true,cond_false,id] at h ⊢
   rw[nP (by omega) (by omega)] at h ⊢
   omega
 unfold sa
 rw[hz]
 rfl
theorem nmC (k_:nc→nE→nj→Int→α) (na:Rows) (m:nc) (domain:Int) (r:nE) (p:nj) (aJ:T5 na m domain r p=true):∃N,nau ke k_ N na m domain r p=k_ (sd na m domain r p).1 (sd na m domain r p).2.1 (sd na m domain r p).2.2.1 (sd na m domain r p).2.2.2:=by
 have HH:=aJ
 simp only[T5,Bool.and_eq_true] at HH
 obtain⟨s0,s1⟩:=HH
 have hl:=sO (show sm p.oe=true from s1)
 unfold nau Sk sd
 refine⟨p.oe.length+1, ?_⟩
 refine pT (by rw[s0,s1];rfl) ?_
 refine pH (K:=fun z:nc×nE×nj×Int=>k_ z.1 z.2.1 z.2.2.1 z.2.2.2) (fun _=>rfl) (fun hg=> ?_)
 have key:∀(q i N:Nat) (r:nE) (m:nc),i+q=p.oe.length→q<N→sm m.nL=true→
   y3 ke k_ (p.oe.length+1) na domain p.oe (len p.oe) p.oA p.nG p.Count p.oe p.oA p.nG p.Count N (i:Int) (i:Int) r.oA r.nG r.Head r.qQ m.nL=(fun z:nc×nE×nj×Int=>k_ z.1 z.2.1 z.2.2.1 z.2.2.2) (nph na domain p (p.oe.drop i) (i:Int) m r):=by
  intro q
  induction q with
  | zero=>
   intro i N r m h1 h2 h3
   obtain⟨N,rfl⟩:∃q,N=q+1:=⟨N - 1,by omega⟩
   have hi:i=p.oe.length:=by omega
   subst hi
   rw[Ub,List.drop_length]
   have g1:QK p.oe (p.oe.length:Int)=true:=by simp only[QK,Bool.and_eq_true,decide_eq_true_eq];omega
   have e1:tu p.oe (p.oe.length:Int)=[]:=by simp [tu]
   have g2:sm ([]:Rows)=true:=rfl
   simp only[y4,nX,g1,e1,g2,oD,ng,cond_true,cond_false,nph]
  | succ q ih=>
   intro i N r m h1 h2 h3
   obtain⟨N,rfl⟩:∃q,N=q+1:=⟨N - 1,by omega⟩
   have hi:i<p.oe.length:=by omega
   rw[Ub,drop_cons hi]
   have A4:∀(r:nE) (e:Bytes),NZ na (⟨m.nL⟩:nc) domain r e=true:=fun _ _=>h3
   have w1:nS ((i:Int)+1)=((i+1:Nat):Int):=by rw[nP (by omega) (by omega)];omega
   have hx:∀r:nE,(⟨r.oA,r.nG,r.Head,r.qQ⟩:nE)=r:=fun _=>rfl
   have hm:(⟨m.nL⟩:nc)=m:=rfl
   have hp:(⟨p.oA,p.nG,p.Count,p.oe⟩:nj)=p:=rfl
   have this:=ih (i+1) N (sa na m domain r (sD ⟨3,0,p.nG,pL p (rI (nth p.oe i) 0),0,rI (nth p.oe i) 0⟩)).2.1 (sa na m domain r (sD ⟨3,0,p.nG,pL p (rI (nth p.oe i) 0),0,rI (nth p.oe i) 0⟩)).1 (by omega) (by omega) (decide_eq_true (by rw[ZX];exact sO h3))
   have g1:QK p.oe (i:Int)=true:=by simp only[QK,Bool.and_eq_true,decide_eq_true_eq];omega
   have e1:tu p.oe (i:Int)=nth p.oe i::p.oe.drop (i+1):=by rw[←drop_cons hi];simp [tu]
   have g2:sm (nth p.oe i::p.oe.drop (i+1))=true:=decide_eq_true (by rw[←drop_cons hi,List.length_drop];omega)
   simp only[y4,pw hi,nY hi,A4,w1,hx,hm,hp,g1,e1,g2,oD,Int.toNat_natCast,ng,cond_true,nph]
   refine pH (K:=fun z:nc×nE×nj×Int=>k_ z.1 z.2.1 z.2.2.1 z.2.2.2) (fun _=>rfl) (fun _=>this)
 exact key p.oe.length 0 (p.oe.length+1) r m (by omega) (by omega) s0
def zz (k_:nc→nE→nj→Int→α) (na:Rows) (domain p_1 p_2 Pq:Int) (PL:Rows) (sk pB pC:Int) (oP:Int→Int→Int→Int→Int→Rows→Rows→α) (n r_1 r_2 r_3 r_4:Int) (og p_:Rows):α:=
 let z0:Bytes:=sD (⟨3,0,p_2,pL (⟨p_1,p_2,Pq,PL⟩:nj) (rI (nth p_ 0) 0),0,rI (nth p_ 0) 0⟩:rq)
 let z1:nc×nE×Bool:=sa na (⟨og⟩:nc) domain (⟨r_1,r_2,r_3,r_4⟩:nE) z0
 let z2:nE:=z1.2.1
 bif bif decide (0<tx (⟨r_1,r_2,r_3,r_4⟩:nE)) then decide (0<len p_) else false then
  bif Ei (Ei true (idx 0 p_)) (inl 0 p_) then
   bif Ei true (NZ na (⟨og⟩:nc) domain (⟨r_1,r_2,r_3,r_4⟩:nE) z0) then
    bif !z1.2.2 then k_ (⟨og⟩:nc) (⟨r_1,r_2,r_3,r_4⟩:nE) (⟨sk,pB,pC,p_⟩:nj) n
    else bif Ei (Ei true (QK p_ 1)) (pY 8 [] (tu p_ 1)) then
      oP (nS (n+1)) z2.oA z2.nG z2.Head z2.qQ z1.1.nL (tu p_ 1)
     else ke
   else ke
  else ke
 else k_ (⟨og⟩:nc) (⟨r_1,r_2,r_3,r_4⟩:nE) (⟨sk,pB,pC,p_⟩:nj) n
def zy (k_:nc→nE→nj→Int→α) (N:Nat) (na:Rows) (domain p_1 p_2 Pq:Int) (PL:Rows) (sk pB pC:Int) (m_:Nat):Int→Int→Int→Int→Int→Rows→Rows→α:=
 Nat.rec (motive:=fun _=>Int→Int→Int→Int→Int→Rows→Rows→α) (fun _ _ _ _ _ _ _=>ke) (fun _ oP=>zz ke k_ na domain p_1 p_2 Pq PL sk pB pC oP) m_
theorem VE (k_:nc→nE→nj→Int→α) (N:Nat) (na:Rows) (domain p_1 p_2 Pq:Int) (PL:Rows) (sk pB pC:Int) (m_:Nat):zy ke k_ N na domain p_1 p_2 Pq PL sk pB pC (m_+1)=zz ke k_ na domain p_1 p_2 Pq PL sk pB pC (zy ke k_ N na domain p_1 p_2 Pq PL sk pB pC m_):=rfl
def SJ (k_:nc→nE→nj→Int→α) (l0:Int→Int→Int→Rows→Int→Int→Int→Int→Int→Int→Int→Int→Rows→Rows→α) (na:Rows) (m:nc) (domain:Int) (r:nE) (p:nj):α:=
 bif Ei true (vW m) then
  bif Ei true (we p) then
   bif bif !(sR r) then true else !(qP p) then k_ (oD m) r (oD p) 0
   else l0 p.oA p.nG p.Count p.oe ((oD p).oA) ((oD p).nG) ((oD p).Count) 0 r.oA r.nG r.Head r.qQ ((oD m).nL) ((oD p).oe)
  else ke
 else ke
def nbW (k_:nc→nE→nj→Int→α) (N:Nat) (na:Rows) (m:nc) (domain:Int) (r:nE) (p:nj):α:=SJ ke k_ (fun p_1 p_2 Pq PL sk pB pC=>zy ke k_ N na domain p_1 p_2 Pq PL sk pB pC N) na m domain r p
theorem noq (k_:nc→nE→nj→Int→α) (na:Rows) (m:nc) (domain:Int) (r:nE) (p:nj) (aJ:T5 na m domain r p=true):∃N,nbW ke k_ N na m domain r p=k_ (sd na m domain r p).1 (sd na m domain r p).2.1 (sd na m domain r p).2.2.1 (sd na m domain r p).2.2.2:=by
 have HH:=aJ
 simp only[T5,Bool.and_eq_true] at HH
 obtain⟨s0,s1⟩:=HH
 have hl:=sO (show sm p.oe=true from s1)
 unfold nbW SJ sd
 refine⟨p.oe.length+1, ?_⟩
 refine pT (uX s0) (pT (uX s1) ?_)
 refine pH (K:=fun z:nc×nE×nj×Int=>k_ z.1 z.2.1 z.2.2.1 z.2.2.2) (fun _=>rfl) (fun hg=> ?_)
 have key:∀(q i N:Nat) (r:nE) (m:nc),i+q=p.oe.length→q<N→sm m.nL=true→
   zy ke k_ (p.oe.length+1) na domain p.oA p.nG p.Count p.oe p.oA p.nG p.Count N (i:Int) r.oA r.nG r.Head r.qQ m.nL (p.oe.drop i)=(fun z:nc×nE×nj×Int=>k_ z.1 z.2.1 z.2.2.1 z.2.2.2) (nph na domain p (p.oe.drop i) (i:Int) m r):=by
  intro q
  induction q with
  | zero=>
   intro i N r m h1 h2 h3
   obtain⟨N,rfl⟩:∃q,N=q+1:=⟨N - 1,by omega⟩
   have hi:i=p.oe.length:=by omega
   subst hi
   rw[VE,List.drop_length]
   have hf:(bif decide (0<tx r) then decide ((0:Int)<len ([]:Rows)) else false)=false:=by cases decide (0<tx r)<;>rfl
   have hx:(⟨r.oA,r.nG,r.Head,r.qQ⟩:nE)=r:=rfl
   simp only[zz,hx,hf,cond_false,nph]
  | succ q ih=>
   intro i N r m h1 h2 h3
   obtain⟨N,rfl⟩:∃q,N=q+1:=⟨N - 1,by omega⟩
   have hi:i<p.oe.length:=by omega
   rw[VE,drop_cons hi]
   have A4:∀(r:nE) (e:Bytes),NZ na (⟨m.nL⟩:nc) domain r e=true:=fun _ _=>h3
   have w1:nS ((i:Int)+1)=((i+1:Nat):Int):=by rw[nP (by omega) (by omega)];omega
   have hx:∀r:nE,(⟨r.oA,r.nG,r.Head,r.qQ⟩:nE)=r:=fun _=>rfl
   have hm:(⟨m.nL⟩:nc)=m:=rfl
   have hp:(⟨p.oA,p.nG,p.Count,p.oe⟩:nj)=p:=rfl
   have this:=ih (i+1) N (sa na m domain r (sD ⟨3,0,p.nG,pL p (rI (nth p.oe i) 0),0,rI (nth p.oe i) 0⟩)).2.1 (sa na m domain r (sD ⟨3,0,p.nG,pL p (rI (nth p.oe i) 0),0,rI (nth p.oe i) 0⟩)).1 (by omega) (by omega) (decide_eq_true (by rw[ZX];exact sO h3))
   have e1:tu (nth p.oe i::p.oe.drop (i+1)) 1=p.oe.drop (i+1):=by unfold tu;rw[List.take_length];rfl
   have g1:QK (nth p.oe i::p.oe.drop (i+1)) 1=true:=by simp only[QK,Bool.and_eq_true,decide_eq_true_eq,List.length_cons];omega
   have g3:idx 0 (nth p.oe i::p.oe.drop (i+1))=true:=by simp only[idx,Bool.and_eq_true,decide_eq_true_eq,List.length_cons];omega
   have g4:inl 0 (nth p.oe i::p.oe.drop (i+1))=true:=rfl
   have g5:pY 8 [] (p.oe.drop (i+1))=true:=wM (by rw[List.length_drop];simp only[List.length_nil];omega) (by omega)
   have e2:nth (nth p.oe i::p.oe.drop (i+1)) 0=nth p.oe i:=rfl
   have hlen:decide ((0:Int)<len (nth p.oe i::p.oe.drop (i+1)))=true:=decide_eq_true (by simp only[len,List.length_cons];omega)
   have hc:(bif decide (0<tx r) then true else false)=decide (0<tx r):=by cases decide (0<tx r)<;>rfl
   simp only[zz,hx,hm,hp,A4,w1,e1,e2,g1,g3,g4,g5,hlen,hc,ng,cond_true,nph]
   cases hf:decide (0<tx r)
   ·rw[nt1 hf]
    rfl
   ·simp only[cond_true]
    exact pH (K:=fun z:nc×nE×nj×Int=>k_ z.1 z.2.1 z.2.2.1 z.2.2.2) (fun _=>rfl) (fun _=>this)
 exact key p.oe.length 0 (p.oe.length+1) r m (by omega) (by omega) s0
theorem Xl {q:nf} (h:vK q=true):uc q.nG=true∧2≤q.nG∧q.nG≤16∧0≤q.Count∧q.Count<2*q.nG∧0≤q.oA∧q.oA≤130944:=by
 unfold vK Ui at h
 simp only[id] at h
 cases hb:nh q.oA 0 130944
 case false=>rw[hb] at h;cases h
 cases hs:uc q.nG
 case false=>rw[hb,hs] at h;cases h
 rw[hb,hs] at h
 have h4:2≤q.nG∧q.nG≤16:=by rcases yL hs with h | h | h | h<;>omega
 rw[nP (n:=2*q.nG) (by omega) (by omega),nP (n:=2*q.nG - 1) (by omega) (by omega)] at h
 have h5:=pA.1 (show nh q.Count 0 (2*q.nG - 1)=true from h)
 have h6:=pA.1 hb
 exact⟨rfl,by omega,by omega,by omega,by omega,h6.1,h6.2⟩
def nfG {α:Type} (k_:nO→α) (p:nC):α:=
 k_ (⟨p.qO.Kind,p.pZ,p.qh,p.qO.ox,p.qO.ov⟩:nO)
def n8 (p:nC):nO:=nfG id p
theorem nfF {α:Type} (k_:nO→α) (p:nC):nfG k_ p=k_ (n8 p):=by
 rfl
def UI {α:Type} (k_:Int→α) (q:nf):α:=
 bif decide (q.Count<q.nG) then k_ 1
 else k_ 0
def Xk (q:nf):Int:=UI id q
theorem npM {α:Type} (k_:Int→α) (q:nf):UI k_ q=k_ (Xk q):=by
 exact Ka rfl rfl
def ncp (k_:Int→α) (q:nf):α:=
 bif Ei true (!(q.nG==0)) then
  k_ (nS (1 - (nS (Int.tdiv q.Count q.nG))))
 else ke
theorem noU (k_:Int→α) (q:nf) (aJ:vK q=true):ncp ke k_ q=k_ (Xk q):=by
 obtain⟨f1,f2,f3,f4,f5,f6,f7⟩:=Xl aJ
 have hz:(!(q.nG==0))=true:=by simp;omega
 unfold ncp Xk UI
 refine pT (uX hz) ?_
 have e:nS (1 - nS (Int.tdiv q.Count q.nG))=bif decide (q.Count<q.nG) then 1 else 0:=by
  rw[Int.tdiv_eq_ediv_of_nonneg f4]
  generalize q.Count=c at*
  by_cases h:c<q.nG
  ·rw[decide_eq_true h,Int.ediv_eq_zero_of_lt f4 h];rfl
  ·rw[decide_eq_false h]
   have:c / q.nG=1:=by
    rcases yL f1 with h2 | h2 | h2 | h2<;>rw[h2] at h f5 ⊢ <;>omega
   rw[this];rfl
 rw[e]
 cases decide (q.Count<q.nG)<;>rfl
def UK (k_:Int→α) (q:nf):α:=
 bif Ei true (!(q.nG==0)) then
  k_ (nS (q.oA+(nS ((Int.tmod q.Count q.nG)*16))))
 else ke
def njQ (q:nf):Int:=nS (q.oA+nS (Int.tmod q.Count q.nG*16))
theorem ng2 (k_:Int→α) (q:nf) (aJ:vK q=true):UK ke k_ q=k_ (njQ q):=by
 obtain⟨f1,f2,f3,f4,f5,f6,f7⟩:=Xl aJ
 have hz:(!(q.nG==0))=true:=by simp;omega
 unfold UK
 exact pT (uX hz) rfl
theorem ncu {a b:Bool} (h:(bif a then true else b)=false):a=false∧b=false:=by cases a<;>simp_all
theorem Wi {h:nt} (hk:OC h=true):1≤h.Rx.length∧h.Rx.length≤2∧h.nR.length=h.Rx.length∧h.nN.length=h.Rx.length∧h.nT.length=h.Rx.length∧
  ∀i,i<h.Rx.length→X6 (nr.nd (nth h.Rx i) 0)=true∧qP (nj.nd (nth h.nR i) 0)=true∧tA (nx.nd (nth h.nN i) 0)=true:=by
 unfold OC at hk
 cases h8:npj h
 case true=>rw[h8] at hk;cases hk
 rw[h8,cond_false] at hk
 cases hs:rT h.nk (len h.Rx)
 case false=>rw[hs] at hk;cases hk
 rw[hs,cond_true] at hk
 cases ha:yt (fun i=>bif !(X6 (nr.nd (nth h.Rx i) 0)) then true else bif !(qP (nj.nd (nth h.nR i) 0)) then true else !(tA (nx.nd (nth h.nN i) 0))) h.Rx.length 0
 case true=>rw[ha] at hk;cases hk
 unfold npj at h8
 obtain⟨_,h8⟩:=ncu h8
 obtain⟨_,h8⟩:=ncu h8
 obtain⟨_,h8⟩:=ncu h8
 obtain⟨_,h8⟩:=ncu h8
 obtain⟨b,h8⟩:=ncu h8
 obtain⟨e1,h8⟩:=ncu h8
 obtain⟨e2,e3⟩:=ncu h8
 have b:=pA.1 (Ts b)
 have e1:len h.nR=len h.Rx:=by simpa using e1
 have e2:len h.nN=len h.Rx:=by simpa using e2
 have e3:len h.nT=len h.Rx:=by simpa using e3
 simp only[len] at b e1 e2 e3
 refine⟨by omega,by omega,by omega,by omega,by omega,fun i hi=> ?_⟩
 have:=T4.1 ha i (by omega) (by omega)
 obtain⟨a1,this⟩:=ncu this
 obtain⟨a2,a3⟩:=ncu this
 exact⟨Ts a1,Ts a2,Ts a3⟩
structure nM where
 qf:Int
 Len:Int
 nG:Int
 Count:Int
 nxR:Int
def nM.enc (x:nM):List DC:=[.int x.qf,.int x.Len,.int x.nG,.int x.Count,.int x.nxR]
def nM.nd (r:List DC) (o:Nat):nM:=⟨rI r (o+0),rI r (o+1),rI r (o+2),rI r (o+3),rI r (o+4)⟩
def nM.ct:List CT:=[.i,.i,.i,.i,.i]
theorem nM.eta {r:List DC} (h:kc nM.ct r):(nM.nd r 0).enc=r:=(show (nM.nd r 0).enc=sN nM.ct r 0 from by kernel_rfl).trans (ra h)
theorem nM.nB {r:List CT} {ds:List DC} (h:kc (nM.ct++r) ds):∃(x:nM) (aX:List DC),ds=x.enc++aX∧kc nM.ct x.enc∧kc r aX:=by
 obtain⟨d1,d2,rfl,h1,h2⟩:=qt h
 exact⟨nM.nd d1 0,d2,by rw[nM.eta h1],by rw[nM.eta h1];exact h1,h2⟩
theorem nM.ns3 {x:nM} (h:kc nM.ct x.enc):G9 .i (.int x.qf):=oB 0 h rfl rfl
theorem nM.nxx {x:nM} (h:kc nM.ct x.enc):G9 .i (.int x.Len):=oB 1 h rfl rfl
theorem nM.nka {x:nM} (h:kc nM.ct x.enc):G9 .i (.int x.nG):=oB 2 h rfl rfl
theorem nM.nj9 {x:nM} (h:kc nM.ct x.enc):G9 .i (.int x.Count):=oB 3 h rfl rfl
def R1 {α:Type} (k_:nx→Bool→α) (v:nx):α:=
 bif bif !(tA v) then true else !v.P_ then k_ v false
 else k_ (⟨v.yu,v.OD,0,0,true,false⟩:nx) true
def sq (v:nx):nx×Bool:=R1 (fun r0 r1=>(r0,r1)) v
theorem R0 {α:Type} (k_:nx→Bool→α) (v:nx):R1 k_ v=k_ (sq v).1 (sq v).2:=by
 exact Ka (K:=fun r:nx×Bool=>k_ r.1 r.2) rfl rfl
def nfO {α:Type} (k_:nx→α) (v:nx):α:=
 bif !(tA v) then k_ v
 else k_ (npe (⟨v.yu,v.OD,v.Count,v.Time,false,v.P_⟩:nx))
def nkd (v:nx):nx:=nfO id v
theorem nfN {α:Type} (k_:nx→α) (v:nx):nfO k_ v=k_ (nkd v):=by
 exact Ka rfl rfl
theorem nhY {p:nC} (h:yU p=true):p.qO.Body.length≤320:=by
 have hs:sn p.qO=true:=by
  unfold yU O3 at h
  revert h
  cases nh p.NY 0 281474976710655<;>cases nh p.N0 0 281474976710655<;>cases nh p.PJ (-1) 4095<;>cases nh p.Tos 0 255<;>cases nh p.Ttl 0 255<;>cases nh p.Id 0 65535<;>cases nh p.pZ 0 4294967295<;>cases nh p.qh 0 4294967295<;>cases sn p.qO<;>simp
 exact ntI hs
theorem nvr {α:Type} (a b:Bool) (x y:α):(bif a then x else bif b then x else y)=bif (bif a then true else b) then x else y:=by cases a<;>rfl
theorem ncF (p:Nat→List DC→Bool):∀(l:Rows) (s:Nat),findIdx p l s= -1∨∃i,i<l.length∧findIdx p l s=((s+i:Nat):Int)
 | [],s=> .inl rfl
 | r::l,s=>by
  simp only[findIdx]
  cases p s r
  ·rcases ncF p l (s+1) with h | ⟨i,h1,h2⟩
   ·exact .inl h
   ·exact .inr ⟨i+1,by simp only[List.length_cons];omega,by simp only[cond_false];rw[h2];congr 1;omega⟩
  ·exact .inr ⟨0,by simp,rfl⟩
def Ot {α:Type} (k_:nM→Int→Bool→α) (s:Bytes):α:=
 let z0:nM:=(⟨0,0,0,0,0⟩:nM)
 bif (len s) != 16 then k_ z0 0 false
 else bif decide (1<tT s 12) then k_ z0 0 false
 else k_ (⟨px s 0,px s 2,px s 4,px s 6,tT s 8⟩:nM) (tT s 12) true
def qj (s:Bytes):nM×Int×Bool:=bif bif (len s) != 16 then true else decide (1<tT s 12) then (⟨0,0,0,0,0⟩,0,false) else (⟨px s 0,px s 2,px s 4,px s 6,tT s 8⟩,tT s 12,true)
theorem Ya {α:Type} (k_:nM→Int→Bool→α) (s:Bytes):Ot k_ s=k_ (qj s).1 (qj s).2.1 (qj s).2.2:=by
 unfold Ot qj
 dsimp only
 rw[nvr]
 exact pH (K:=fun r:nM×Int×Bool=>k_ r.1 r.2.1 r.2.2) (fun _=>rfl) (fun _=>rfl)
def ZH {α:Type} (k_:nM→Int→Bool→α) (s:Bytes):α:=
 bif bif (len s) != 16 then true else decide (1<tT s 12) then k_ (⟨0,0,0,0,0⟩:nM) 0 false
 else k_ (⟨px s 0,px s 2,px s 4,px s 6,tT s 8⟩:nM) (tT s 12) true
theorem ZF {α:Type} (k_:nM→Int→Bool→α) (s:Bytes):ZH k_ s=k_ (qj s).1 (qj s).2.1 (qj s).2.2:=by
 exact pH (K:=fun r:nM×Int×Bool=>k_ r.1 r.2.1 r.2.2) (fun _=>rfl) (fun _=>rfl)
def PO (k_:nM→nf→Bool→α) (na:Rows) (m:nc) (domain:Int) (q:nf):α:=
 let z0:nM:=(⟨0,0,0,0,0⟩:nM)
 let z1:Bytes×Bool:=tv na m domain (njQ q) 16
 let z2:nM×Int×Bool:=qj z1.1
 bif !(vK q) then k_ z0 q false
 else bif Ei true (vK q) then
   bif !z1.2 then k_ z0 q false
   else bif bif !z2.2.2 then true else z2.2.1 != (Xk q) then k_ z0 q false
   else bif Ei true (!((nS (2*q.nG))==0)) then
     k_ z2.1 (⟨q.oA,q.nG,Int.tmod (nS (q.Count+1)) (nS (2*q.nG))⟩:nf) true
    else ke
  else ke
def ncD (na:Rows) (m:nc) (domain:Int) (q:nf):nM×Int×Bool:=qj (tv na m domain (njQ q) 16).1
def nxV (na:Rows) (m:nc) (domain:Int) (q:nf):Bool:=bif !(tv na m domain (njQ q) 16).2 then true else bif !(ncD na m domain q).2.2 then true else (ncD na m domain q).2.1 != Xk q
def nU (na:Rows) (m:nc) (domain:Int) (q:nf):nM×nf×Bool:=
 bif !(vK q) then (⟨0,0,0,0,0⟩,q,false)
 else bif nxV na m domain q then (⟨0,0,0,0,0⟩,q,false)
 else ((ncD na m domain q).1,⟨q.oA,q.nG,Int.tmod (nS (q.Count+1)) (nS (2*q.nG))⟩,true)
theorem ncs (k_:nM→nf→Bool→α) (na:Rows) (m:nc) (domain:Int) (q:nf):PO ke k_ na m domain q=k_ (nU na m domain q).1 (nU na m domain q).2.1 (nU na m domain q).2.2:=by
 unfold PO nU
 dsimp only
 refine pH (K:=fun r:nM×nf×Bool=>k_ r.1 r.2.1 r.2.2) (fun _=>rfl) (fun hg=> ?_)
 have hq:vK q=true:=Ts hg
 obtain⟨f1,f2,f3,f4,f5,f6,f7⟩:=Xl hq
 have hz:(!((nS (2*q.nG))==0))=true:=by
  rw[nP (by omega) (by omega)]
  simp;omega
 have Jq:(!(q.nG==0))=true:=by simp;omega
 refine pT (uX hq) ?_
 rw[nvr]
 exact pH (K:=fun r:nM×nf×Bool=>k_ r.1 r.2.1 r.2.2) (fun _=>rfl) (fun _=>pT (uX hz) rfl)
def PX (k_:nM→nf→Bool→α) (na:Rows) (m:nc) (domain:Int) (q:nf):α:=
 let z0:nM:=(⟨0,0,0,0,0⟩:nM)
 let z1:Bytes×Bool:=tv na m domain (nS (q.oA+(nS (16*(Int.tmod q.Count q.nG))))) 16
 let z2:Bool:= !z1.2
 let z3:nM×Int×Bool:=qj z1.1
 let z4:Bool:= !z3.2.2
 bif !(vK q) then k_ z0 q false
 else bif Ei true (!(q.nG==0)) then
   bif L1 z2 true (L1 z4 true (Ei true (vK q))) then
    bif bif z2 then true else bif z4 then true else z3.2.1 != (Xk q) then k_ z0 q false
    else bif Ei true (!((nS (2*q.nG))==0)) then
      k_ z3.1 (⟨q.oA,q.nG,Int.tmod (nS (q.Count+1)) (nS (2*q.nG))⟩:nf) true
     else ke
   else ke
  else ke
theorem ncw (k_:nM→nf→Bool→α) (na:Rows) (m:nc) (domain:Int) (q:nf):PX ke k_ na m domain q=k_ (nU na m domain q).1 (nU na m domain q).2.1 (nU na m domain q).2.2:=by
 unfold PX nU
 dsimp only
 refine pH (K:=fun r:nM×nf×Bool=>k_ r.1 r.2.1 r.2.2) (fun _=>rfl) (fun hg=> ?_)
 have hq:vK q=true:=Ts hg
 obtain⟨f1,f2,f3,f4,f5,f6,f7⟩:=Xl hq
 have hz:(!((nS (2*q.nG))==0))=true:=by
  rw[nP (by omega) (by omega)]
  simp;omega
 have Jq:(!(q.nG==0))=true:=by simp;omega
 refine pT (uX Jq) ?_
 rw[Int.mul_comm 16]
 refine pT (by rw[hq];simp only[ng,yK]) ?_
 exact pH (K:=fun r:nM×nf×Bool=>k_ r.1 r.2.1 r.2.2) (fun _=>rfl) (fun _=>pT (uX hz) rfl)
def wk (k_:Int→α) (na:Rows) (oy ui wW tw xO xP:Int) (oP:Int→α) (oN:Int):α:=
 bif decide (oN<oy) then
  bif Ei true (idx oN na) then
   bif bif (rI (nth na (Int.toNat oN)) 0)==ui then bif (rI (nth na (Int.toNat oN)) 1)==wW then bif (rI (nth na (Int.toNat oN)) 2)==tw then bif (rI (nth na (Int.toNat oN)) 3)==xO then bif (rI (nth na (Int.toNat oN)) 4)==xP then true else false else false else false else false else false then k_ oN
   else oP (nS (oN+1))
  else ke
 else k_ (-1)
def uz (k_:Int→α) (N:Nat) (na:Rows) (oy ui wW tw xO xP:Int) (m_:Nat):Int→α:=
 Nat.rec (motive:=fun _=>Int→α) (fun _=>ke) (fun _ oP=>wk ke k_ na oy ui wW tw xO xP oP) m_
theorem PQ (k_:Int→α) (N:Nat) (na:Rows) (oy ui wW tw xO xP:Int) (m_:Nat):uz ke k_ N na oy ui wW tw xO xP (m_+1)=wk ke k_ na oy ui wW tw xO xP (uz ke k_ N na oy ui wW tw xO xP m_):=rfl
def N4 {α:Type} (ke:α) (k_:Int→α) (l0:Int→Int→Int→Int→Int→Int→Int→α) (na:Rows) (f:nO):α:=
 l0 (len na) f.Kind f.pZ f.qh f.ox f.ov 0
def Uo (k_:Int→α) (N:Nat) (na:Rows) (f:nO):α:=N4 ke k_ (fun oy ui wW tw xO xP=>uz ke k_ N na oy ui wW tw xO xP N) na f
def Z6 (f:nO) (r:List DC):Bool:=(bif (rI r 0)==f.Kind then bif (rI r 1)==f.pZ then bif (rI r 2)==f.qh then bif (rI r 3)==f.ox then bif (rI r 4)==f.ov then true else false else false else false else false else false)
def nW (na:Rows) (f:nO):Int:=findIdx (fun _ r=>Z6 f r) na 0
theorem ngQ (k_:Int→α) (na:Rows) (f:nO) (pP:G9 (.sl [.i,.i,.i,.i,.i,.i,.str,.bool]) (.sl na)):∃N,Uo ke k_ N na f=k_ (nW na f):=by
 obtain⟨hl,_⟩:=oJ pP
 refine⟨na.length+1, ?_⟩
 unfold Uo N4 nW
 have key:uz ke k_ (na.length+1) na (len na) f.Kind f.pZ f.qh f.ox f.ov (na.length+1) 0=k_ (findIdx (fun _ r=>Z6 f r) na 0):=by
  refine (rb na (uz ke k_ (na.length+1) na (len na) f.Kind f.pZ f.qh f.ox f.ov) (fun i r c=>bif Z6 f r then k_ (i:Int) else c) (k_ (-1)) ?_ ?_).trans ?_
  ·intro n i h
   rw[PQ]
   simp only[wk,pw h,nY h,oO h hl,Int.toNat_natCast,ng,nn,cond_true]
   rfl
  ·intro n
   rw[PQ]
   simp only[wk,nX,cond_false]
  ·exact Qb (fun _ r=>Z6 f r) k_ na 0
 exact key
def wC (k_:Int→α) (na:Rows) (ui wW tw xO xP:Int) (oP:Int→α) (k:Int):α:=
 bif decide (k<len na) then
  bif Ei true (idx k na) then
   bif bif (rI (nth na (Int.toNat k)) 0)==ui then bif (rI (nth na (Int.toNat k)) 1)==wW then bif (rI (nth na (Int.toNat k)) 2)==tw then bif (rI (nth na (Int.toNat k)) 3)==xO then bif (rI (nth na (Int.toNat k)) 4)==xP then true else false else false else false else false else false then k_ k
   else oP (nS (k+1))
  else ke
 else k_ (-1)
def uD (k_:Int→α) (N:Nat) (na:Rows) (ui wW tw xO xP:Int) (m_:Nat):Int→α:=
 Nat.rec (motive:=fun _=>Int→α) (fun _=>ke) (fun _ oP=>wC ke k_ na ui wW tw xO xP oP) m_
theorem PY (k_:Int→α) (N:Nat) (na:Rows) (ui wW tw xO xP:Int) (m_:Nat):uD ke k_ N na ui wW tw xO xP (m_+1)=wC ke k_ na ui wW tw xO xP (uD ke k_ N na ui wW tw xO xP m_):=rfl
def Ok {α:Type} (ke:α) (k_:Int→α) (l0:Int→Int→Int→Int→Int→Int→α) (na:Rows) (f:nO):α:=
 l0 f.Kind f.pZ f.qh f.ox f.ov 0
def VS (k_:Int→α) (N:Nat) (na:Rows) (f:nO):α:=Ok ke k_ (fun ui wW tw xO xP=>uD ke k_ N na ui wW tw xO xP N) na f
theorem nhS (k_:Int→α) (na:Rows) (f:nO) (pP:G9 (.sl [.i,.i,.i,.i,.i,.i,.str,.bool]) (.sl na)):∃N,VS ke k_ N na f=k_ (nW na f):=by
 obtain⟨hl,_⟩:=oJ pP
 refine⟨na.length+1, ?_⟩
 unfold VS Ok nW
 have key:uD ke k_ (na.length+1) na f.Kind f.pZ f.qh f.ox f.ov (na.length+1) 0=k_ (findIdx (fun _ r=>Z6 f r) na 0):=by
  refine (rb na (uD ke k_ (na.length+1) na f.Kind f.pZ f.qh f.ox f.ov) (fun i r c=>bif Z6 f r then k_ (i:Int) else c) (k_ (-1)) ?_ ?_).trans ?_
  ·intro n i h
   rw[PY]
   simp only[wC,pw h,nY h,oO h hl,Int.toNat_natCast,ng,nn,cond_true]
   rfl
  ·intro n
   rw[PY]
   simp only[wC,nX,cond_false]
  ·exact Qb (fun _ r=>Z6 f r) k_ na 0
 exact key
theorem nvU (a:Int):bits .and .i64 a 4294967295=a % 4294967296:=ncA 32 (by decide) a
theorem ntT (x:Int):nS x % 4294967296=x % 4294967296:=by rw[nac];omega
theorem nvc (a b:Int):(nS a - b) % 4294967296=(a - b) % 4294967296:=by rw[nac];omega
def ncL (k_:Rows→α) (na:Rows) (p:nC):α:=
 let z0:Bool:=decide (nW (oD na) (n8 p)<0)
 let z1:Bool:=idx (len (oD na)) ((oD na)++([[.int ((n8 p).Kind),.int ((n8 p).pZ),.int ((n8 p).qh),.int ((n8 p).ox),.int ((n8 p).ov),.int 0,.str [],.bool false]]))
 let z2:Bool:=inl (Int.toNat (len (oD na))) ((oD na)++([[.int ((n8 p).Kind),.int ((n8 p).pZ),.int ((n8 p).qh),.int ((n8 p).ox),.int ((n8 p).ov),.int 0,.str [],.bool false]]))
 let z3:Bool:=oZ (oK (len p.qO.Body)) p.qO.Body
 let z4:List DC:=nth ((oD na)++([[.int ((n8 p).Kind),.int ((n8 p).pZ),.int ((n8 p).qh),.int ((n8 p).ox),.int ((n8 p).ov),.int 0,.str [],.bool false]])) (Int.toNat (len (oD na)))
 let z5:Bytes:=(oK (len p.qO.Body))++p.qO.Body
 let z6:Bool:=idx (nW (oD na) (n8 p)) (oD na)
 let z7:Bool:=Ei true z6
 let z8:Nat:=Int.toNat (nW (oD na) (n8 p))
 let z9:Bool:=inl z8 (oD na)
 let TR:Bool:=Ei z7 z9
 let z11:List DC:=nth (oD na) z8
 let z12:Bool:=Ei true z9
 let z13:Int:=nS ((rI z11 5) - p.qO.Seq)
 let z14:Int:=SG z13 4294967296
 let z15:Bytes:=tu p.qO.Body z14
 let z16:Rows:=List.set (oD na) z8 (bT z11 6 [.str ((rS z11 6)++z15)])
 let z17:Bool:=inl z8 z16
 let z18:List DC:=nth z16 z8
 let z19:Int:=nS ((nS ((rI z18 5)+(len p.qO.Body))) - z14)
 let z20:Rows:=List.set z16 z8 (bT z18 5 [.int (SG z19 4294967296)])
 bif Ei true (sm na) then
  bif !(yU p) then k_ (oD na)
  else bif p.qO.Kind==17 then
   bif z0 then
    bif Ei true (pY 72 (oD na) ([[.int ((n8 p).Kind),.int ((n8 p).pZ),.int ((n8 p).qh),.int ((n8 p).ox),.int ((n8 p).ov),.int 0,.str [],.bool false]])) then
     bif Ei (Ei (Ei (Ei (Ei (Ei true z1) z2) z3) (oZ (rS z4 6) z5)) z1) z2 then
      k_ (List.set ((oD na)++([[.int ((n8 p).Kind),.int ((n8 p).pZ),.int ((n8 p).qh),.int ((n8 p).ox),.int ((n8 p).ov),.int 0,.str [],.bool false]])) (Int.toNat (len (oD na))) (bT z4 6 [.str ((rS z4 6)++z5)]))
     else ke
    else ke
   else bif Ei (Ei (Ei (Ei TR z3) (oZ (rS z11 6) z5)) z6) z9 then
     k_ (List.set (oD na) z8 (bT z11 6 [.str ((rS z11 6)++z5)]))
    else ke
  else bif (bits .and .i64 p.qO.Flags 2) != 0 then
   bif z0 then
    bif Ei true (pY 72 (oD na) ([[.int ((n8 p).Kind),.int ((n8 p).pZ),.int ((n8 p).qh),.int ((n8 p).ox),.int ((n8 p).ov),.int (Int.tmod (nS (p.qO.Seq+1)) 4294967296),.str [],.bool false]])) then
     k_ ((oD na)++([[.int ((n8 p).Kind),.int ((n8 p).pZ),.int ((n8 p).qh),.int ((n8 p).ox),.int ((n8 p).ov),.int (Int.tmod (nS (p.qO.Seq+1)) 4294967296),.str [],.bool false]]))
    else ke
   else k_ (oD na)
  else bif L1 z0 true (L1 (rB z11 7) TR TR) then
    bif bif z0 then true else bif rB z11 7 then true else (bits .and .i64 p.qO.Flags 4) != 0 then k_ (oD na)
    else bif z7 then
      bif Ei z12 (xK z13 4294967296) then
       bif decide (z14≤len p.qO.Body) then
        bif Ei (Ei (Ei z12 (QK p.qO.Body z14)) (oZ (rS z11 6) z15)) z9 then
         bif Ei (Ei (Ei true z17) (xK z19 4294967296)) z17 then
          bif Ei true (inl z8 z20) then
           k_ (List.set z20 z8 (bT (nth z20 z8) 7 [.bool ((bits .and .i64 p.qO.Flags 1) != 0)]))
          else ke
         else ke
        else ke
       else k_ (oD na)
      else ke
     else ke
   else ke
 else ke
def nw_ (f:nO) (next:Int) (data:Bytes):List DC:=nJ.enc ⟨f,next,data,false⟩
def dvO (s:nJ) (p:nC):Int:=(s.Next - p.qO.Seq) % 4294967296
def nxD (s:nJ) (p:nC):nJ:=⟨s.xN,(s.Next+len p.qO.Body - dvO s p) % 4294967296,s.Data++tu p.qO.Body (dvO s p),(bits .and .i64 p.qO.Flags 1) != 0⟩
def nxC (s:nJ) (p:nC):nJ:=⟨s.xN,s.Next,s.Data++(oK (len p.qO.Body)++p.qO.Body),s.X3⟩
def ncC (na:Rows) (p:nC):Bool:=decide (na.length≤16777216) && na.all (fun r=>decide ((rS r 6).length≤1000000000000))
def yS (na:Rows) (p:nC):Rows:=
 bif !(yU p) then na
 else bif p.qO.Kind==17 then
  bif decide (nW na (n8 p)<0) then na++[nw_ (n8 p) 0 (oK (len p.qO.Body)++p.qO.Body)]
  else List.set na (nW na (n8 p)).toNat (nJ.enc (nxC (nJ.nd (nth na (nW na (n8 p)).toNat) 0) p))
 else bif (bits .and .i64 p.qO.Flags 2) != 0 then
  bif decide (nW na (n8 p)<0) then na++[nw_ (n8 p) (Int.tmod (nS (p.qO.Seq+1)) 4294967296) []] else na
 else bif bif decide (nW na (n8 p)<0) then true else bif (nJ.nd (nth na (nW na (n8 p)).toNat) 0).X3 then true else (bits .and .i64 p.qO.Flags 4) != 0 then na
 else bif decide (dvO (nJ.nd (nth na (nW na (n8 p)).toNat) 0) p≤len p.qO.Body) then List.set na (nW na (n8 p)).toNat (nJ.enc (nxD (nJ.nd (nth na (nW na (n8 p)).toNat) 0) p)) else na
theorem npn (k_:Rows→α) (na:Rows) (p:nC) (pP:G9 (.sl [.i,.i,.i,.i,.i,.i,.str,.bool]) (.sl na)) (h_p:kc nC.ct p.enc) (aJ:ncC na p=true):ncL ke k_ na p=k_ (yS na p):=by
 obtain⟨hl,hw⟩:=oJ pP
 have nxS:=vn (nA.nwO (nC.nvf h_p))
 simp only[ncC,Bool.and_eq_true,List.all_eq_true,decide_eq_true_eq] at aJ
 obtain⟨s0,s1⟩:=aJ
 have s0:na.length≤16777216:=s0
 unfold ncL yS
 dsimp only
 rw[show oD na=na from rfl]
 refine pT (uX (decide_eq_true s0)) ?_
 refine pH (fun _=>rfl) (fun hS=> ?_)
 have hb:=nhY (Ts hS)
 have nxU:=pd (len p.qO.Body)
 have h72:∀x:List DC,pY 72 na [x]=true:=fun x=>wM (by simp only[List.length_cons,List.length_nil];omega) (by omega)
 have npi:∀a b:Bytes,a.length≤2000000000000→b.length≤2000000000000→oZ a b=true:=fun a b h1 h2=>decide_eq_true (by omega)
 generalize hf:n8 p=f
 rcases ncF (fun _ r=>Z6 f r) na 0 with hix | ⟨c,hc,hix⟩
 ·have hx:nW na f= -1:=hix
  generalize nW na f=X at hx ⊢
  subst hx
  have ntp:decide ((-1:Int)<0)=true:=rfl
  simp only[ntp,cond_true]
  refine pH (fun _=> ?_) (fun _=> ?_)
  ·refine pT (uX (h72 _)) ?_
   have i1:∀x:List DC,idx (len na) (na++[x])=true:=fun x=>nY (i:=na.length) (by simp)
   have i2:∀x:List DC,inl (Int.toNat (len na)) (na++[x])=true:=fun x=>qC (by simp [len])
   have i3:∀x:List DC,nth (na++[x]) (Int.toNat (len na))=x:=fun x=>by simp [nth,len]
   have i4:∀x y:List DC,List.set (na++[x]) (Int.toNat (len na)) y=na++[y]:=fun x y=>by simp [len]
   have c1:oZ (oK (len p.qO.Body)) p.qO.Body=true:=npi _ _ (by omega) (by omega)
   simp only[i1,i2,i3,i4,c1,ng,nn]
   exact pT (npi _ _ (Nat.zero_le _) (by rw[List.length_append];omega)) rfl
  ·refine pH (fun _=>pT (uX (h72 _)) rfl) (fun _=> ?_)
   exact pT (Xj (fun _=>rfl) (fun h=>by cases h)) rfl
 ·have hx:nW na f=(c:Int):=by rw[Nat.zero_add] at hix;exact hix
  generalize nW na f=X at hx ⊢
  subst hx
  have ntp:decide ((c:Int)<0)=false:=decide_eq_false (by omega)
  have i1:idx (c:Int) na=true:=nY hc
  have i2:inl c na=true:=qC hc
  have hd:=s1 _ (qi hc)
  have hn:=vn (nJ.ntX (x:=nJ.nd (nth na c) 0) (by rw[nJ.eta (hw _ (qi hc))];exact hw _ (qi hc)))
  have hs:=(nJ.eta (hw _ (qi hc))).symm
  generalize nJ.nd (nth na c) 0=s at hs hn
  have hd:s.Data.length≤1000000000000:=by rw[hs] at hd;exact hd
  rw[ntp,Int.toNat_natCast]
  simp only[cond_false]
  refine pH (fun _=> ?_) (fun _=> ?_)
  ·rw[hs]
   have c1:oZ (oK (len p.qO.Body)) p.qO.Body=true:=npi _ _ (by omega) (by omega)
   simp only[i1,i2,c1,ng,nn]
   exact pT (npi _ _ (Nat.le_trans hd (by omega)) (by rw[List.length_append];omega)) rfl
  ·refine pH (fun _=>rfl) (fun _=> ?_)
   rw[hs]
   have e5:rI (nJ.enc s) 5=s.Next:=rfl
   have e6:rS (nJ.enc s) 6=s.Data:=rfl
   have e7:rB (nJ.enc s) 7=s.X3:=rfl
   have p6:∀d:Bytes,bT (nJ.enc s) 6 [.str d]=nJ.enc ⟨s.xN,s.Next,d,s.X3⟩:=fun _=>rfl
   have q5:∀d:Bytes,rI (nJ.enc ⟨s.xN,s.Next,d,s.X3⟩) 5=s.Next:=fun _=>rfl
   have p5:∀(d:Bytes) (n:Int),bT (nJ.enc ⟨s.xN,s.Next,d,s.X3⟩) 5 [.int n]=nJ.enc ⟨s.xN,n,d,s.X3⟩:=fun _ _=>rfl
   have p7:∀(d:Bytes) (n:Int) (b:Bool),bT (nJ.enc ⟨s.xN,n,d,s.X3⟩) 7 [.bool b]=nJ.enc ⟨s.xN,n,d,b⟩:=fun _ _ _=>rfl
   have hB:0≤len p.qO.Body∧len p.qO.Body≤320:=by simp only[len];omega
   have ho:0≤dvO s p∧dvO s p<4294967296:=by unfold dvO;omega
   obtain⟨a1,a2⟩:=QJ (x:=nS (s.Next - p.qO.Seq)) (n:=4294967296) (nwL _) (ntS _) (by omega) (by omega)
   rw[ntT] at a2
   have m1:SG (nS (s.Next - p.qO.Seq)) 4294967296=dvO s p:=a2
   simp only[e5,a1]
   simp only[i1,i2,e5,e6,e7,m1,ng,nn,yK,cond_true,cond_false]
   refine pH (fun _=>rfl) (fun _=> ?_)
   refine pH (fun hle=> ?_) (fun _=>rfl)
   have hle:=of_decide_eq_true hle
   have ku:(tu p.qO.Body (dvO s p)).length≤p.qO.Body.length:=by unfold tu;rw[List.length_drop,List.length_take];omega
   have g1:QK p.qO.Body (dvO s p)=true:=by
    simp only[QK,Bool.and_eq_true,decide_eq_true_eq]
    exact⟨ho.1,hle⟩
   have g2:oZ s.Data (tu p.qO.Body (dvO s p))=true:=npi _ _ (by omega) (by omega)
   obtain⟨b1,b2⟩:=QJ (x:=nS (nS (s.Next+len p.qO.Body) - dvO s p)) (n:=4294967296) (nwL _) (ntS _) (by omega) (by omega)
   rw[ntT,nvc] at b2
   have m2:=b2
   have m3:=b1
   simp only[g1,g2,p6,q5,O_,Nk hc,m3]
   simp only[g1,g2,p6,i1,i2,RS,O_,List.set_set,Nk hc,q5,p5,p7,m2,ng,nn,cond_true]
   rfl
def nd0 (k_:Rows→α) (na:Rows) (p:nC):α:=
 let z0:Bool:=decide (nW na (n8 p)<0)
 let z1:Bool:=idx (len na) (na++([[.int ((n8 p).Kind),.int ((n8 p).pZ),.int ((n8 p).qh),.int ((n8 p).ox),.int ((n8 p).ov),.int 0,.str [],.bool false]]))
 let z2:Bool:=inl (Int.toNat (len na)) (na++([[.int ((n8 p).Kind),.int ((n8 p).pZ),.int ((n8 p).qh),.int ((n8 p).ox),.int ((n8 p).ov),.int 0,.str [],.bool false]]))
 let z3:List DC:=nth (na++([[.int ((n8 p).Kind),.int ((n8 p).pZ),.int ((n8 p).qh),.int ((n8 p).ox),.int ((n8 p).ov),.int 0,.str [],.bool false]])) (Int.toNat (len na))
 let z4:Bytes:=(rS z3 6)++(oK (len p.qO.Body))
 let z5:Bool:=idx (nW na (n8 p)) na
 let z6:Bool:=inl (Int.toNat (nW na (n8 p))) na
 let z7:Bool:=Ei (Ei true z5) z6
 let z8:List DC:=nth na (Int.toNat (nW na (n8 p)))
 let z9:Bytes:=(rS z8 6)++(oK (len p.qO.Body))
 let TR:Int:=bits .and .i64 (nS ((rI z8 5) - p.qO.Seq)) 4294967295
 let z11:Bytes:=tu p.qO.Body TR
 let z12:Rows:=List.set na (Int.toNat (nW na (n8 p))) (bT z8 6 [.str ((rS z8 6)++z11)])
 let z13:Bool:=idx (nW na (n8 p)) z12
 let z14:Bool:=inl (Int.toNat (nW na (n8 p))) z12
 let z15:List DC:=nth z12 (Int.toNat (nW na (n8 p)))
 let z16:Rows:=List.set z12 (Int.toNat (nW na (n8 p))) (bT z15 5 [.int (Int.tmod (nS ((nS ((bits .and .i64 (rI z15 5) 4294967295)+(len p.qO.Body))) - TR)) 4294967296)])
 bif Ei true (pY 72 [] na) then
  bif !(yU p) then k_ na
  else bif p.qO.Kind==17 then
   bif z0 then
    bif Ei true (pY 72 na ([[.int ((n8 p).Kind),.int ((n8 p).pZ),.int ((n8 p).qh),.int ((n8 p).ox),.int ((n8 p).ov),.int 0,.str [],.bool false]])) then
     bif Ei (Ei (Ei (Ei (Ei (Ei true z1) z2) (oZ (rS z3 6) (oK (len p.qO.Body)))) (oZ z4 p.qO.Body)) z1) z2 then
      k_ (List.set (na++([[.int ((n8 p).Kind),.int ((n8 p).pZ),.int ((n8 p).qh),.int ((n8 p).ox),.int ((n8 p).ov),.int 0,.str [],.bool false]])) (Int.toNat (len na)) (bT z3 6 [.str (z4++p.qO.Body)]))
     else ke
    else ke
   else bif Ei (Ei (Ei (Ei z7 (oZ (rS z8 6) (oK (len p.qO.Body)))) (oZ z9 p.qO.Body)) z5) z6 then
     k_ (List.set na (Int.toNat (nW na (n8 p))) (bT z8 6 [.str (z9++p.qO.Body)]))
    else ke
  else bif (bits .and .i64 p.qO.Flags 2) != 0 then
   bif z0 then
    bif Ei true (pY 72 na ([[.int ((n8 p).Kind),.int ((n8 p).pZ),.int ((n8 p).qh),.int ((n8 p).ox),.int ((n8 p).ov),.int (Int.tmod (nS (p.qO.Seq+1)) 4294967296),.str [],.bool false]])) then
     k_ (na++([[.int ((n8 p).Kind),.int ((n8 p).pZ),.int ((n8 p).qh),.int ((n8 p).ox),.int ((n8 p).ov),.int (Int.tmod (nS (p.qO.Seq+1)) 4294967296),.str [],.bool false]]))
    else ke
   else k_ na
  else bif L1 z0 true (L1 (rB z8 7) z7 z7) then
    bif bif z0 then true else bif rB z8 7 then true else (bits .and .i64 p.qO.Flags 4) != 0 then k_ na
    else bif z7 then
      bif decide (TR≤len p.qO.Body) then
       bif Ei (Ei (Ei (Ei z7 (QK p.qO.Body TR)) (oZ (rS z8 6) z11)) z5) z6 then
        bif Ei (Ei (Ei (Ei true z13) z14) z13) z14 then
         bif Ei (Ei true (idx (nW na (n8 p)) z16)) (inl (Int.toNat (nW na (n8 p))) z16) then
          k_ (List.set z16 (Int.toNat (nW na (n8 p))) (bT (nth z16 (Int.toNat (nW na (n8 p)))) 7 [.bool ((bits .and .i64 p.qO.Flags 1) != 0)]))
         else ke
        else ke
       else ke
      else k_ na
     else ke
   else ke
 else ke
theorem nqT (k_:Rows→α) (na:Rows) (p:nC) (pP:G9 (.sl [.i,.i,.i,.i,.i,.i,.str,.bool]) (.sl na)) (h_p:kc nC.ct p.enc) (aJ:ncC na p=true):nd0 ke k_ na p=k_ (yS na p):=by
 obtain⟨hl,hw⟩:=oJ pP
 have nxS:=vn (nA.nwO (nC.nvf h_p))
 simp only[ncC,Bool.and_eq_true,List.all_eq_true,decide_eq_true_eq] at aJ
 obtain⟨s0,s1⟩:=aJ
 have s0:na.length≤16777216:=s0
 unfold nd0 yS
 dsimp only
 refine pT (uX (qy (decide_eq_true s0) (by omega))) ?_
 refine pH (fun _=>rfl) (fun hS=> ?_)
 have hb:=nhY (Ts hS)
 have nxU:=pd (len p.qO.Body)
 have h72:∀x:List DC,pY 72 na [x]=true:=fun x=>wM (by simp only[List.length_cons,List.length_nil];omega) (by omega)
 have npi:∀a b:Bytes,a.length≤2000000000000→b.length≤2000000000000→oZ a b=true:=fun a b h1 h2=>decide_eq_true (by omega)
 generalize hf:n8 p=f
 rcases ncF (fun _ r=>Z6 f r) na 0 with hix | ⟨c,hc,hix⟩
 ·have hx:nW na f= -1:=hix
  generalize nW na f=X at hx ⊢
  subst hx
  have ntp:decide ((-1:Int)<0)=true:=rfl
  simp only[ntp,cond_true]
  refine pH (fun _=> ?_) (fun _=> ?_)
  ·refine pT (uX (h72 _)) ?_
   have i1:∀x:List DC,idx (len na) (na++[x])=true:=fun x=>nY (i:=na.length) (by simp)
   have i2:∀x:List DC,inl (Int.toNat (len na)) (na++[x])=true:=fun x=>qC (by simp [len])
   have i3:∀x:List DC,nth (na++[x]) (Int.toNat (len na))=x:=fun x=>by simp [nth,len]
   have i4:∀x y:List DC,List.set (na++[x]) (Int.toNat (len na)) y=na++[y]:=fun x y=>by simp [len]
   simp only[i1,i2,i3,i4,ng,nn]
   exact pT (by rw[gr];exact⟨npi _ _ (Nat.zero_le _) (by omega),npi _ _ (by rw[List.length_append];show 0+(oK (len p.qO.Body)).length≤_;omega) (by omega)⟩) rfl
  ·refine pH (fun _=>pT (uX (h72 _)) rfl) (fun _=> ?_)
   exact pT (Xj (fun _=>rfl) (fun h=>by cases h)) rfl
 ·have hx:nW na f=(c:Int):=by rw[Nat.zero_add] at hix;exact hix
  generalize nW na f=X at hx ⊢
  subst hx
  have ntp:decide ((c:Int)<0)=false:=decide_eq_false (by omega)
  have i1:idx (c:Int) na=true:=nY hc
  have i2:inl c na=true:=qC hc
  have hd:=s1 _ (qi hc)
  have hn:=vn (nJ.ntX (x:=nJ.nd (nth na c) 0) (by rw[nJ.eta (hw _ (qi hc))];exact hw _ (qi hc)))
  have hs:=(nJ.eta (hw _ (qi hc))).symm
  generalize nJ.nd (nth na c) 0=s at hs hn
  have hd:s.Data.length≤1000000000000:=by rw[hs] at hd;exact hd
  rw[ntp,Int.toNat_natCast]
  simp only[cond_false]
  refine pH (fun _=> ?_) (fun _=> ?_)
  ·rw[hs]
   have e6:rS (nJ.enc s) 6=s.Data:=rfl
   simp only[i1,i2,e6,ng,nn]
   refine pT (by rw[gr];exact⟨npi _ _ (by omega) (by omega),npi _ _ (by rw[List.length_append];omega) (by omega)⟩) ?_
   rw[List.append_assoc]
   rfl
  ·refine pH (fun _=>rfl) (fun _=> ?_)
   rw[hs]
   have e5:rI (nJ.enc s) 5=s.Next:=rfl
   have e6:rS (nJ.enc s) 6=s.Data:=rfl
   have e7:rB (nJ.enc s) 7=s.X3:=rfl
   have p6:∀d:Bytes,bT (nJ.enc s) 6 [.str d]=nJ.enc ⟨s.xN,s.Next,d,s.X3⟩:=fun _=>rfl
   have q5:∀d:Bytes,rI (nJ.enc ⟨s.xN,s.Next,d,s.X3⟩) 5=s.Next:=fun _=>rfl
   have p5:∀(d:Bytes) (n:Int),bT (nJ.enc ⟨s.xN,s.Next,d,s.X3⟩) 5 [.int n]=nJ.enc ⟨s.xN,n,d,s.X3⟩:=fun _ _=>rfl
   have p7:∀(d:Bytes) (n:Int) (b:Bool),bT (nJ.enc ⟨s.xN,n,d,s.X3⟩) 7 [.bool b]=nJ.enc ⟨s.xN,n,d,b⟩:=fun _ _ _=>rfl
   have hB:0≤len p.qO.Body∧len p.qO.Body≤320:=by simp only[len];omega
   have ho:0≤dvO s p∧dvO s p<4294967296:=by unfold dvO;omega
   have m1:bits .and .i64 (nS (s.Next - p.qO.Seq)) 4294967295=dvO s p:=by rw[nvU,ntT];rfl
   simp only[i1,i2,e5,e6,e7,m1,ng,nn,yK,cond_true,cond_false]
   refine pH (fun _=>rfl) (fun _=> ?_)
   refine pH (fun hle=> ?_) (fun _=>rfl)
   have hle:=of_decide_eq_true hle
   have ku:(tu p.qO.Body (dvO s p)).length≤p.qO.Body.length:=by unfold tu;rw[List.length_drop,List.length_take];omega
   have g1:QK p.qO.Body (dvO s p)=true:=by
    simp only[QK,Bool.and_eq_true,decide_eq_true_eq]
    exact⟨ho.1,hle⟩
   have g2:oZ s.Data (tu p.qO.Body (dvO s p))=true:=npi _ _ (by omega) (by omega)
   have m2:Int.tmod (nS (nS (bits .and .i64 s.Next 4294967295+len p.qO.Body) - dvO s p)) 4294967296=(s.Next+len p.qO.Body - dvO s p) % 4294967296:=by
    rw[nvU]
    have h0:=Int.emod_nonneg s.Next (show (4294967296:Int)≠0 by omega)
    have h1:=Int.emod_lt_of_pos s.Next (show (0:Int)<4294967296 by omega)
    rw[nP (n:=s.Next % 4294967296+len p.qO.Body) (by omega) (by omega),nP (by omega) (by omega),Int.tmod_eq_emod_of_nonneg (by omega)]
    omega
   simp only[g1,g2,p6,i1,i2,RS,O_,List.set_set,Nk hc,q5,p5,p7,m2,ng,nn,cond_true]
   rfl
def xT (k_:nc→nr→nj→Rows→Int→α) (na:Rows) (domain budget q_1 TX q_3 q_4 Ps Pt Pu QN QO QP QQ QR QS QT QU QV QW QX QY QZ Q_ Ra:Int) (Rb:Bytes) (Rc Rd:Int) (Re:Bool) (Rf:Int) (og:Rows) (oP:Int→Int→Int→Int→Int→Int→Int→Rows→Rows→α) (n Wf PM Z9 sk pB pC:Int) (all p_:Rows):α:=
 let z0:nM×nf×Bool:=nU na (⟨og⟩:nc) domain (⟨Wf,PM,Z9⟩:nf)
 let z1:Bool:=Ei true (T5 na (⟨og⟩:nc) domain (⟨q_1,TX,q_3,q_4⟩:nE) (⟨sk,pB,pC,p_⟩:nj))
 let z2:nc×nE×nj×Int:=sd na (⟨og⟩:nc) domain (⟨q_1,TX,q_3,q_4⟩:nE) (⟨sk,pB,pC,p_⟩:nj)
 let z3:nc:=z2.1
 let z4:nr:=(⟨z2.2.1,(⟨Ps,Pt,Pu⟩:nf),(⟨Wf,PM,Z9⟩:nf),(⟨(⟨QN,QO,QP,QQ,QR,QS,QT,QU,(⟨QV,QW,QX,QY,QZ,Q_,Ra,Rb⟩:nA)⟩:nC),Rc,Rd⟩:pr),Re,Rf⟩:nr)
 let z5:nj:=z2.2.2.1
 let z6:Bytes×Bool:=tv na (⟨og⟩:nc) domain (pL (⟨sk,pB,pC,p_⟩:nj) z0.1.qf) z0.1.Len
 let z7:nC×Int:=ud z6.1
 let z8:nC:=z7.1
 let z9:Bool:=Ei true (OK (⟨sk,pB,pC,p_⟩:nj) ([[.int z0.1.qf]]))
 bif decide (n<budget) then
  bif !z0.2.2 then
   bif z1 then
    k_ z3 z4 z5 all n
   else ke
  else bif z6.2 then
   bif z7.2==0 then
    bif Ei true (ncC all z8) then
     bif z9 then
      oP (nS (n+1)) z0.2.1.oA z0.2.1.nG z0.2.1.Count (((om (⟨sk,pB,pC,p_⟩:nj) ([[.int z0.1.qf]])).1).oA) (((om (⟨sk,pB,pC,p_⟩:nj) ([[.int z0.1.qf]])).1).nG) (((om (⟨sk,pB,pC,p_⟩:nj) ([[.int z0.1.qf]])).1).Count) (yS all z8) (((om (⟨sk,pB,pC,p_⟩:nj) ([[.int z0.1.qf]])).1).oe)
     else ke
    else ke
   else bif z9 then
     oP (nS (n+1)) z0.2.1.oA z0.2.1.nG z0.2.1.Count (((om (⟨sk,pB,pC,p_⟩:nj) ([[.int z0.1.qf]])).1).oA) (((om (⟨sk,pB,pC,p_⟩:nj) ([[.int z0.1.qf]])).1).nG) (((om (⟨sk,pB,pC,p_⟩:nj) ([[.int z0.1.qf]])).1).Count) all (((om (⟨sk,pB,pC,p_⟩:nj) ([[.int z0.1.qf]])).1).oe)
    else ke
  else bif z9 then
    oP (nS (n+1)) z0.2.1.oA z0.2.1.nG z0.2.1.Count (((om (⟨sk,pB,pC,p_⟩:nj) ([[.int z0.1.qf]])).1).oA) (((om (⟨sk,pB,pC,p_⟩:nj) ([[.int z0.1.qf]])).1).nG) (((om (⟨sk,pB,pC,p_⟩:nj) ([[.int z0.1.qf]])).1).Count) all (((om (⟨sk,pB,pC,p_⟩:nj) ([[.int z0.1.qf]])).1).oe)
   else ke
 else bif z1 then
   k_ z3 z4 z5 all n
  else ke
def xS (k_:nc→nr→nj→Rows→Int→α) (N:Nat) (na:Rows) (domain budget q_1 TX q_3 q_4 Ps Pt Pu QN QO QP QQ QR QS QT QU QV QW QX QY QZ Q_ Ra:Int) (Rb:Bytes) (Rc Rd:Int) (Re:Bool) (Rf:Int) (og:Rows) (m_:Nat):Int→Int→Int→Int→Int→Int→Int→Rows→Rows→α:=
 Nat.rec (motive:=fun _=>Int→Int→Int→Int→Int→Int→Int→Rows→Rows→α) (fun _ _ _ _ _ _ _ _ _=>ke) (fun _ oP=>xT ke k_ na domain budget q_1 TX q_3 q_4 Ps Pt Pu QN QO QP QQ QR QS QT QU QV QW QX QY QZ Q_ Ra Rb Rc Rd Re Rf og oP) m_
theorem S1 (k_:nc→nr→nj→Rows→Int→α) (N:Nat) (na:Rows) (domain budget q_1 TX q_3 q_4 Ps Pt Pu QN QO QP QQ QR QS QT QU QV QW QX QY QZ Q_ Ra:Int) (Rb:Bytes) (Rc Rd:Int) (Re:Bool) (Rf:Int) (og:Rows) (m_:Nat):xS ke k_ N na domain budget q_1 TX q_3 q_4 Ps Pt Pu QN QO QP QQ QR QS QT QU QV QW QX QY QZ Q_ Ra Rb Rc Rd Re Rf og (m_+1)=xT ke k_ na domain budget q_1 TX q_3 q_4 Ps Pt Pu QN QO QP QQ QR QS QT QU QV QW QX QY QZ Q_ Ra Rb Rc Rd Re Rf og (xS ke k_ N na domain budget q_1 TX q_3 q_4 Ps Pt Pu QN QO QP QQ QR QS QT QU QV QW QX QY QZ Q_ Ra Rb Rc Rd Re Rf og m_):=rfl
def Qe (k_:nc→nr→nj→Rows→Int→α) (l0:Int→Int→Int→Int→Int→Int→Int→Int→Int→Int→Int→Int→Int→Int→Int→Int→Int→Int→Int→Int→Int→Int→Bytes→Int→Int→Bool→Int→Rows→Int→Int→Int→Int→Int→Int→Int→Rows→Rows→α) (na:Rows) (m:nc) (domain:Int) (q:nr) (p:nj) (streams:Rows) (budget:Int):α:=
 bif Ei (Ei (Ei true (vW m)) (we p)) (sm streams) then
  bif bif !(X6 q) then true else bif !(qP p) then true else !(nh budget 0 1000) then k_ (oD m) q (oD p) (oD streams) 0
  else l0 q.Ring.oA q.Ring.nG q.Ring.Head q.Ring.qQ q.Device.oA q.Device.nG q.Device.Count q.pO.nV.NY q.pO.nV.N0 q.pO.nV.PJ q.pO.nV.Tos q.pO.nV.Id q.pO.nV.Ttl q.pO.nV.pZ q.pO.nV.qh q.pO.nV.qO.Kind q.pO.nV.qO.ox q.pO.nV.qO.ov q.pO.nV.qO.Seq q.pO.nV.qO.Ack q.pO.nV.qO.Flags q.pO.nV.qO.uF q.pO.nV.qO.Body q.pO.nG q.pO.Count q.TA q.Tz ((oD m).nL) 0 q.Driver.oA q.Driver.nG q.Driver.Count ((oD p).oA) ((oD p).nG) ((oD p).Count) (oD streams) ((oD p).oe)
 else ke
def Yh (k_:nc→nr→nj→Rows→Int→α) (N:Nat) (na:Rows) (m:nc) (domain:Int) (q:nr) (p:nj) (streams:Rows) (budget:Int):α:=Qe ke k_ (fun q_1 TX q_3 q_4 Ps Pt Pu QN QO QP QQ QR QS QT QU QV QW QX QY QZ Q_ Ra Rb Rc Rd Re Rf og=>xS ke k_ N na domain budget q_1 TX q_3 q_4 Ps Pt Pu QN QO QP QQ QR QS QT QU QV QW QX QY QZ Q_ Ra Rb Rc Rd Re Rf og N) na m domain q p streams budget
def nu8 (na:Rows) (m:nc) (domain:Int) (p:nj) (x:nM):Bytes×Bool:=tv na m domain (pL p x.qf) x.Len
def nqM (na:Rows) (m:nc) (domain:Int) (p:nj) (x:nM) (a:Rows):Rows:=bif (nu8 na m domain p x).2 then bif (ud (nu8 na m domain p x).1).2==0 then yS a (ud (nu8 na m domain p x).1).1 else a else a
def nqN (na:Rows) (m:nc) (domain:Int):Nat→nf→nj→Rows→Int→nf×nj×Rows×Int
 | 0,d,p,a,n=>(d,p,a,n)
 | f+1,d,p,a,n=>bif !(nU na m domain d).2.2 then (d,p,a,n)
  else nqN na m domain f (nU na m domain d).2.1 (om p [[.int (nU na m domain d).1.qf]]).1 (nqM na m domain p (nU na m domain d).1 a) (nS (n+1))
def nvs (na:Rows) (m:nc) (domain:Int) (q:nr) (s:nf×nj×Rows×Int):nc×nr×nj×Rows×Int:=
 ((sd na m domain q.Ring s.2.1).1, {q with Ring:=(sd na m domain q.Ring s.2.1).2.1,Driver:=s.1},(sd na m domain q.Ring s.2.1).2.2.1,s.2.2.1,s.2.2.2)
def ngu (na:Rows) (m:nc) (domain:Int) (q:nr) (p:nj) (streams:Rows) (budget:Int):Bool:=vW m && (decide (p.oe.length≤8000000) && (decide (streams.length≤8000000) && streams.all (fun r=>decide ((rS r 6).length≤500000000000))))
def qk (na:Rows) (m:nc) (domain:Int) (q:nr) (p:nj) (streams:Rows) (budget:Int):nc×nr×nj×Rows×Int:=
 bif bif !(X6 q) then true else bif !(qP p) then true else !(nh budget 0 1000) then (m,q,p,streams,0)
 else nvs na m domain q (nqN na m domain budget.toNat q.Driver p streams 0)
theorem nuk {l:Rows} {i:Nat} {x r:List DC} (h:r∈List.set l i x):r∈l∨r=x:=by
 rcases List.mem_or_eq_of_mem_set h with h | h
 ·exact .inl h
 ·exact .inr h
theorem ncy (l:Rows) (p:nC):(yS l p).length≤l.length+1:=by
 unfold yS
 cases (!(yU p))<;>cases (p.qO.Kind==17)<;>cases decide (nW l (n8 p)<0)<;>cases ((bits .and .i64 p.qO.Flags 2) != 0)<;>simp only[cond_true,cond_false,List.length_append,List.length_set,List.length_cons,List.length_nil]<;>try omega
 all_goals
  cases (nJ.nd (nth l (nW l (n8 p)).toNat) 0).X3<;>cases ((bits .and .i64 p.qO.Flags 4) != 0)<;>cases decide (dvO (nJ.nd (nth l (nW l (n8 p)).toNat) 0) p≤len p.qO.Body)<;>simp only[cond_true,cond_false,List.length_set]<;>omega
theorem ZV {l:Rows} {p:nC} {D:Nat} (h:∀r∈l,(rS r 6).length≤D):∀r∈yS l p,(rS r 6).length≤D+400:=by
 have h0:∀r∈l,(rS r 6).length≤D+400:=fun r hr=>Nat.le_trans (h r hr) (by omega)
 have hn:(rS (nth l (nW l (n8 p)).toNat) 6).length≤D:=by
  by_cases hi:(nW l (n8 p)).toNat<l.length
  ·exact h _ (qi hi)
  ·rw[show nth l (nW l (n8 p)).toNat=[] by simp [nth,List.getD_eq_getElem?_getD,List.getElem?_eq_none (Nat.le_of_not_lt hi)]]
   exact Nat.zero_le _
 cases hS:yU p
 ·unfold yS
  rw[hS]
  exact h0
 have hb:=nhY hS
 have hw:=pd (len p.qO.Body)
 have ku:(tu p.qO.Body (dvO (nJ.nd (nth l (nW l (n8 p)).toNat) 0) p)).length≤p.qO.Body.length:=by unfold tu;rw[List.length_drop,List.length_take];omega
 have Jh:∀x:List DC,(rS x 6).length≤D+400→∀r∈List.set l (nW l (n8 p)).toNat x,(rS r 6).length≤D+400:=fun x hx r hr=>by
  rcases nuk hr with h | rfl
  ·exact h0 r h
  ·exact hx
 have nxE:∀x:List DC,(rS x 6).length≤D+400→∀r∈l++[x],(rS r 6).length≤D+400:=fun x hx r hr=>by
  rcases List.mem_append.1 hr with h | h
  ·exact h0 r h
  ·rw[List.mem_singleton.1 h];exact hx
 unfold yS
 rw[hS]
 simp only[Bool.not_true,cond_false]
 cases (p.qO.Kind==17)
 ·simp only[cond_false]
  cases ((bits .and .i64 p.qO.Flags 2) != 0)
  ·simp only[cond_false]
   cases (bif decide (nW l (n8 p)<0) then true else bif (nJ.nd (nth l (nW l (n8 p)).toNat) 0).X3 then true else (bits .and .i64 p.qO.Flags 4) != 0)
   ·simp only[cond_false]
    cases decide (dvO (nJ.nd (nth l (nW l (n8 p)).toNat) 0) p≤len p.qO.Body)
    ·exact h0
    ·exact Jh _ (by show (rS (nth l (nW l (n8 p)).toNat) 6++_).length≤_;rw[List.length_append];omega)
   ·exact h0
  ·simp only[cond_true]
   cases decide (nW l (n8 p)<0)
   ·exact h0
   ·exact nxE _ (Nat.zero_le _)
 ·simp only[cond_true]
  cases decide (nW l (n8 p)<0)
  ·exact Jh _ (by show (rS (nth l (nW l (n8 p)).toNat) 6++_).length≤_;rw[List.length_append,List.length_append];omega)
  ·exact nxE _ (by show (_++_:Bytes).length≤_;rw[List.length_append];omega)
theorem nwA:(ud []).2=2:=by kernel_rfl
theorem nxs {na:Rows} {m:nc} {domain a n:Int} (h:a<0):(bif (tv na m domain a n).2 then (ud (tv na m domain a n).1).2==0 else false)=false:=by
 unfold tv rN
 rw[decide_eq_true h]
 cases (bif !(pD na) then true else bif !(qb m) then true else !(nh n 0 4096))
 ·cases n==0
  ·rfl
  ·show ((ud []).2==0)=false
   rw[nwA]
   rfl
 ·rfl
theorem nkk (k_:nc→nr→nj→Rows→Int→α) (na:Rows) (m:nc) (domain:Int) (q:nr) (p:nj) (streams:Rows) (budget:Int) (aJ:ngu na m domain q p streams budget=true):∃N,Yh ke k_ N na m domain q p streams budget=k_ (qk na m domain q p streams budget).1 (qk na m domain q p streams budget).2.1 (qk na m domain q p streams budget).2.2.1 (qk na m domain q p streams budget).2.2.2.1 (qk na m domain q p streams budget).2.2.2.2:=by
 simp only[ngu,Bool.and_eq_true,List.all_eq_true,decide_eq_true_eq] at aJ
 obtain⟨s0,s1,s2,s3⟩:=aJ
 have Ji:sm streams=true:=decide_eq_true (by omega)
 have hps:we p=true:=decide_eq_true (show p.oe.length≤16777216 by omega)
 unfold Yh Qe qk
 rw[show oD p=p from rfl,show oD m=m from rfl]
 refine⟨1002, ?_⟩
 rw[show oD streams=streams from rfl]
 refine pT (by rw[s0,hps,Ji];rfl) ?_
 refine pH (K:=(fun z:nc×nr×nj×Rows×Int=>k_ z.1 z.2.1 z.2.2.1 z.2.2.2.1 z.2.2.2.2)) (fun _=>rfl) (fun hg=> ?_)
 have hb:=pA.1 (Ts (ncu (ncu hg).2).2)
 obtain⟨B,rfl⟩:∃B:Nat,budget=(B:Int):=⟨budget.toNat,by omega⟩
 rw[Int.toNat_natCast]
 have hm:(⟨m.nL⟩:nc)=m:=rfl
 have hr:(⟨q.Ring.oA,q.Ring.nG,q.Ring.Head,q.Ring.qQ⟩:nE)=q.Ring:=rfl
 have key:∀(f n N:Nat) (d:nf) (p:nj) (a:Rows),n+f=B→f<N→p.oe.length≤8000000+n→a.length≤8000000+n→(∀r∈a,(rS r 6).length≤500000000000+400*n)→
   xS ke k_ 1002 na domain (B:Int) q.Ring.oA q.Ring.nG q.Ring.Head q.Ring.qQ q.Device.oA q.Device.nG q.Device.Count q.pO.nV.NY q.pO.nV.N0 q.pO.nV.PJ q.pO.nV.Tos q.pO.nV.Id q.pO.nV.Ttl q.pO.nV.pZ q.pO.nV.qh q.pO.nV.qO.Kind q.pO.nV.qO.ox q.pO.nV.qO.ov q.pO.nV.qO.Seq q.pO.nV.qO.Ack q.pO.nV.qO.Flags q.pO.nV.qO.uF q.pO.nV.qO.Body q.pO.nG q.pO.Count q.TA q.Tz m.nL N (n:Int) d.oA d.nG d.Count p.oA p.nG p.Count a p.oe=(fun z:nc×nr×nj×Rows×Int=>k_ z.1 z.2.1 z.2.2.1 z.2.2.2.1 z.2.2.2.2) (nvs na m domain q (nqN na m domain f d p a (n:Int))):=by
  intro f
  induction f with
  | zero=>
   intro n N d p a h1 h2 h3 h4 h5
   obtain⟨N,rfl⟩:∃q,N=q+1:=⟨N - 1,by omega⟩
   rw[S1]
   have hf:decide ((n:Int)<(B:Int))=false:=decide_eq_false (by omega)
   have bP:∀(r:nE),T5 na m domain r (⟨p.oA,p.nG,p.Count,p.oe⟩:nj)=true:=fun r=>by
    simp only[T5,Bool.and_eq_true]
    exact⟨s0,decide_eq_true (show p.oe.length≤16777216 by omega)⟩
   simp only[xT,hf,hm,hr,bP,ng,cond_true,cond_false]
   rfl
  | succ f ih=>
   intro n N d p a h1 h2 h3 h4 h5
   obtain⟨N,rfl⟩:∃q,N=q+1:=⟨N - 1,by omega⟩
   rw[S1]
   have ht:decide ((n:Int)<(B:Int))=true:=decide_eq_true (by omega)
   have hd:(⟨d.oA,d.nG,d.Count⟩:nf)=d:=rfl
   have hp:(⟨p.oA,p.nG,p.Count,p.oe⟩:nj)=p:=rfl
   have bP:∀(r:nE),T5 na m domain r p=true:=fun r=>by
    simp only[T5,Bool.and_eq_true]
    exact⟨s0,decide_eq_true (show p.oe.length≤16777216 by omega)⟩
   have LH:∀x:List DC,OK p [x]=true:=fun x=>by
    simp only[OK,Bool.and_eq_true,decide_eq_true_eq]
    exact⟨decide_eq_true (by omega),by simp only[List.length_cons,List.length_nil];omega⟩
   have hdv:∀x:nC,ncC a x=true:=fun x=>by
    simp only[ncC,Bool.and_eq_true,List.all_eq_true,decide_eq_true_eq]
    exact⟨by omega,fun r hr=>Nat.le_trans (h5 r hr) (by omega)⟩
   have w1:nS ((n:Int)+1)=((n+1:Nat):Int):=by rw[nP (by omega) (by omega)];omega
   have hgl:∀x:List DC,(om p [x]).1.oe.length≤p.oe.length+1:=fun x=>by
    unfold om
    cases (bif !(qP p) then true else !(qP (⟨p.oA,p.nG,p.Count,p.oe++[x]⟩:nj)))
    ·simp
    ·simp
   simp only[xT,ht,hm,hr,hd,hp,bP,LH,hdv,w1,ng,cond_true,nqN]
   cases hN:(nU na m domain d).2.2
   ·simp only[Bool.not_false,cond_true]
    rfl
   ·simp only[Bool.not_true,cond_false]
    have go:∀a2:Rows,a2.length≤a.length+1→(∀r∈a2,(rS r 6).length≤500000000000+400*n+400)→_:=fun a2 e1 e2=>ih (n+1) N (nU na m domain d).2.1 (om p [[.int (nU na m domain d).1.qf]]).1 a2 (by omega) (by omega) (Nat.le_trans (hgl _) (by omega)) (by omega) (fun r hr=>Nat.le_trans (e2 r hr) (by omega))
    unfold nqM nu8
    cases hR:(tv na m domain (pL p (nU na m domain d).1.qf) (nU na m domain d).1.Len).2
    ·exact go a (by omega) (fun r hr=>Nat.le_trans (h5 r hr) (by omega))
    ·simp only[cond_true]
     cases hC:((ud (tv na m domain (pL p (nU na m domain d).1.qf) (nU na m domain d).1.Len).1).2==0)
     ·exact go a (by omega) (fun r hr=>Nat.le_trans (h5 r hr) (by omega))
     ·exact go _ (ncy _ _) (ZV h5)
 have:=key B 0 1002 q.Driver p streams (by omega) (by omega) (by omega) (by omega) (fun r hr=>s3 r hr)
 exact this
def yo (k_:nc→nr→nj→Rows→Int→α) (na:Rows) (domain budget:Int) (rz:Rows) (q_1 TX q_3 q_4 Ps Pt Pu QN QO QP QQ QR QS QT QU QV QW QX QY QZ Q_ Ra:Int) (Rb:Bytes) (Rc Rd:Int) (Re:Bool) (Rf:Int) (oP:Int→Int→Int→Int→Int→Int→Int→Rows→Rows→α) (n Wf PM Z9 sk pB pC:Int) (oh p_:Rows):α:=
 let z0:nM×nf×Bool:=nU na (⟨rz⟩:nc) domain (⟨Wf,PM,Z9⟩:nf)
 let z1:Bool:=Ei true (T5 na (⟨rz⟩:nc) domain (⟨q_1,TX,q_3,q_4⟩:nE) (⟨sk,pB,pC,p_⟩:nj))
 let z2:nc×nE×nj×Int:=sd na (⟨rz⟩:nc) domain (⟨q_1,TX,q_3,q_4⟩:nE) (⟨sk,pB,pC,p_⟩:nj)
 let z3:nc:=z2.1
 let z4:nr:=(⟨z2.2.1,(⟨Ps,Pt,Pu⟩:nf),(⟨Wf,PM,Z9⟩:nf),(⟨(⟨QN,QO,QP,QQ,QR,QS,QT,QU,(⟨QV,QW,QX,QY,QZ,Q_,Ra,Rb⟩:nA)⟩:nC),Rc,Rd⟩:pr),Re,Rf⟩:nr)
 let z5:nj:=z2.2.2.1
 let z6:Int:=pL (⟨sk,pB,pC,p_⟩:nj) z0.1.qf
 let z7:Bytes×Bool:=tv na (⟨rz⟩:nc) domain z6 z0.1.Len
 let z8:nC×Int:=ud z7.1
 let z9:nC:=z8.1
 let TR:Bool:=Ei true (OK (⟨sk,pB,pC,p_⟩:nj) ([[.int z0.1.qf]]))
 bif decide (n<budget) then
  bif !z0.2.2 then
   bif z1 then
    k_ z3 z4 z5 oh n
   else ke
  else bif bif decide (0≤z6) then bif z7.2 then z8.2==0 else false else false then
   bif Ei true (ncC oh z9) then
    bif TR then
     oP (nS (n+1)) z0.2.1.oA z0.2.1.nG z0.2.1.Count (((om (⟨sk,pB,pC,p_⟩:nj) ([[.int z0.1.qf]])).1).oA) (((om (⟨sk,pB,pC,p_⟩:nj) ([[.int z0.1.qf]])).1).nG) (((om (⟨sk,pB,pC,p_⟩:nj) ([[.int z0.1.qf]])).1).Count) (yS oh z9) (((om (⟨sk,pB,pC,p_⟩:nj) ([[.int z0.1.qf]])).1).oe)
    else ke
   else ke
  else bif TR then
    oP (nS (n+1)) z0.2.1.oA z0.2.1.nG z0.2.1.Count (((om (⟨sk,pB,pC,p_⟩:nj) ([[.int z0.1.qf]])).1).oA) (((om (⟨sk,pB,pC,p_⟩:nj) ([[.int z0.1.qf]])).1).nG) (((om (⟨sk,pB,pC,p_⟩:nj) ([[.int z0.1.qf]])).1).Count) oh (((om (⟨sk,pB,pC,p_⟩:nj) ([[.int z0.1.qf]])).1).oe)
   else ke
 else bif z1 then
   k_ z3 z4 z5 oh n
  else ke
def yn (k_:nc→nr→nj→Rows→Int→α) (N:Nat) (na:Rows) (domain budget:Int) (rz:Rows) (q_1 TX q_3 q_4 Ps Pt Pu QN QO QP QQ QR QS QT QU QV QW QX QY QZ Q_ Ra:Int) (Rb:Bytes) (Rc Rd:Int) (Re:Bool) (Rf:Int) (m_:Nat):Int→Int→Int→Int→Int→Int→Int→Rows→Rows→α:=
 Nat.rec (motive:=fun _=>Int→Int→Int→Int→Int→Int→Int→Rows→Rows→α) (fun _ _ _ _ _ _ _ _ _=>ke) (fun _ oP=>yo ke k_ na domain budget rz q_1 TX q_3 q_4 Ps Pt Pu QN QO QP QQ QR QS QT QU QV QW QX QY QZ Q_ Ra Rb Rc Rd Re Rf oP) m_
theorem Tu (k_:nc→nr→nj→Rows→Int→α) (N:Nat) (na:Rows) (domain budget:Int) (rz:Rows) (q_1 TX q_3 q_4 Ps Pt Pu QN QO QP QQ QR QS QT QU QV QW QX QY QZ Q_ Ra:Int) (Rb:Bytes) (Rc Rd:Int) (Re:Bool) (Rf:Int) (m_:Nat):yn ke k_ N na domain budget rz q_1 TX q_3 q_4 Ps Pt Pu QN QO QP QQ QR QS QT QU QV QW QX QY QZ Q_ Ra Rb Rc Rd Re Rf (m_+1)=yo ke k_ na domain budget rz q_1 TX q_3 q_4 Ps Pt Pu QN QO QP QQ QR QS QT QU QV QW QX QY QZ Q_ Ra Rb Rc Rd Re Rf (yn ke k_ N na domain budget rz q_1 TX q_3 q_4 Ps Pt Pu QN QO QP QQ QR QS QT QU QV QW QX QY QZ Q_ Ra Rb Rc Rd Re Rf m_):=rfl
def Ri (k_:nc→nr→nj→Rows→Int→α) (l0:Rows→Int→Int→Int→Int→Int→Int→Int→Int→Int→Int→Int→Int→Int→Int→Int→Int→Int→Int→Int→Int→Int→Int→Bytes→Int→Int→Bool→Int→Int→Int→Int→Int→Int→Int→Int→Rows→Rows→α) (na:Rows) (m:nc) (domain:Int) (q:nr) (p:nj) (streams:Rows) (budget:Int):α:=
 bif Ei true (pY 72 [] streams) then
  bif Ei true (we p) then
   bif bif !(X6 q) then true else bif !(qP p) then true else !(nh budget 0 1000) then
    bif Ei true (vW m) then
     k_ (oD m) q (oD p) streams 0
    else ke
   else l0 m.nL q.Ring.oA q.Ring.nG q.Ring.Head q.Ring.qQ q.Device.oA q.Device.nG q.Device.Count q.pO.nV.NY q.pO.nV.N0 q.pO.nV.PJ q.pO.nV.Tos q.pO.nV.Id q.pO.nV.Ttl q.pO.nV.pZ q.pO.nV.qh q.pO.nV.qO.Kind q.pO.nV.qO.ox q.pO.nV.qO.ov q.pO.nV.qO.Seq q.pO.nV.qO.Ack q.pO.nV.qO.Flags q.pO.nV.qO.uF q.pO.nV.qO.Body q.pO.nG q.pO.Count q.TA q.Tz 0 q.Driver.oA q.Driver.nG q.Driver.Count ((oD p).oA) ((oD p).nG) ((oD p).Count) streams ((oD p).oe)
  else ke
 else ke
def ZN (k_:nc→nr→nj→Rows→Int→α) (N:Nat) (na:Rows) (m:nc) (domain:Int) (q:nr) (p:nj) (streams:Rows) (budget:Int):α:=Ri ke k_ (fun rz q_1 TX q_3 q_4 Ps Pt Pu QN QO QP QQ QR QS QT QU QV QW QX QY QZ Q_ Ra Rb Rc Rd Re Rf=>yn ke k_ N na domain budget rz q_1 TX q_3 q_4 Ps Pt Pu QN QO QP QQ QR QS QT QU QV QW QX QY QZ Q_ Ra Rb Rc Rd Re Rf N) na m domain q p streams budget
theorem nlT (k_:nc→nr→nj→Rows→Int→α) (na:Rows) (m:nc) (domain:Int) (q:nr) (p:nj) (streams:Rows) (budget:Int) (aJ:ngu na m domain q p streams budget=true):∃N,ZN ke k_ N na m domain q p streams budget=k_ (qk na m domain q p streams budget).1 (qk na m domain q p streams budget).2.1 (qk na m domain q p streams budget).2.2.1 (qk na m domain q p streams budget).2.2.2.1 (qk na m domain q p streams budget).2.2.2.2:=by
 simp only[ngu,Bool.and_eq_true,List.all_eq_true,decide_eq_true_eq] at aJ
 obtain⟨s0,s1,s2,s3⟩:=aJ
 have Ji:sm streams=true:=decide_eq_true (by omega)
 have hps:we p=true:=decide_eq_true (show p.oe.length≤16777216 by omega)
 unfold ZN Ri qk
 rw[show oD p=p from rfl,show oD m=m from rfl]
 refine⟨1002, ?_⟩
 refine pT (uX (qy Ji (by omega))) (pT (uX hps) ?_)
 refine pH (K:=(fun z:nc×nr×nj×Rows×Int=>k_ z.1 z.2.1 z.2.2.1 z.2.2.2.1 z.2.2.2.2)) (fun _=>pT (uX s0) rfl) (fun hg=> ?_)
 have hb:=pA.1 (Ts (ncu (ncu hg).2).2)
 obtain⟨B,rfl⟩:∃B:Nat,budget=(B:Int):=⟨budget.toNat,by omega⟩
 rw[Int.toNat_natCast]
 have hm:(⟨m.nL⟩:nc)=m:=rfl
 have hr:(⟨q.Ring.oA,q.Ring.nG,q.Ring.Head,q.Ring.qQ⟩:nE)=q.Ring:=rfl
 have key:∀(f n N:Nat) (d:nf) (p:nj) (a:Rows),n+f=B→f<N→p.oe.length≤8000000+n→a.length≤8000000+n→(∀r∈a,(rS r 6).length≤500000000000+400*n)→
   yn ke k_ 1002 na domain (B:Int) m.nL q.Ring.oA q.Ring.nG q.Ring.Head q.Ring.qQ q.Device.oA q.Device.nG q.Device.Count q.pO.nV.NY q.pO.nV.N0 q.pO.nV.PJ q.pO.nV.Tos q.pO.nV.Id q.pO.nV.Ttl q.pO.nV.pZ q.pO.nV.qh q.pO.nV.qO.Kind q.pO.nV.qO.ox q.pO.nV.qO.ov q.pO.nV.qO.Seq q.pO.nV.qO.Ack q.pO.nV.qO.Flags q.pO.nV.qO.uF q.pO.nV.qO.Body q.pO.nG q.pO.Count q.TA q.Tz N (n:Int) d.oA d.nG d.Count p.oA p.nG p.Count a p.oe=(fun z:nc×nr×nj×Rows×Int=>k_ z.1 z.2.1 z.2.2.1 z.2.2.2.1 z.2.2.2.2) (nvs na m domain q (nqN na m domain f d p a (n:Int))):=by
  intro f
  induction f with
  | zero=>
   intro n N d p a h1 h2 h3 h4 h5
   obtain⟨N,rfl⟩:∃q,N=q+1:=⟨N - 1,by omega⟩
   rw[Tu]
   have hf:decide ((n:Int)<(B:Int))=false:=decide_eq_false (by omega)
   have bP:∀(r:nE),T5 na m domain r (⟨p.oA,p.nG,p.Count,p.oe⟩:nj)=true:=fun r=>by
    simp only[T5,Bool.and_eq_true]
    exact⟨s0,decide_eq_true (show p.oe.length≤16777216 by omega)⟩
   simp only[yo,hf,hm,hr,bP,ng,cond_true,cond_false]
   rfl
  | succ f ih=>
   intro n N d p a h1 h2 h3 h4 h5
   obtain⟨N,rfl⟩:∃q,N=q+1:=⟨N - 1,by omega⟩
   rw[Tu]
   have ht:decide ((n:Int)<(B:Int))=true:=decide_eq_true (by omega)
   have hd:(⟨d.oA,d.nG,d.Count⟩:nf)=d:=rfl
   have hp:(⟨p.oA,p.nG,p.Count,p.oe⟩:nj)=p:=rfl
   have bP:∀(r:nE),T5 na m domain r p=true:=fun r=>by
    simp only[T5,Bool.and_eq_true]
    exact⟨s0,decide_eq_true (show p.oe.length≤16777216 by omega)⟩
   have LH:∀x:List DC,OK p [x]=true:=fun x=>by
    simp only[OK,Bool.and_eq_true,decide_eq_true_eq]
    exact⟨decide_eq_true (by omega),by simp only[List.length_cons,List.length_nil];omega⟩
   have hdv:∀x:nC,ncC a x=true:=fun x=>by
    simp only[ncC,Bool.and_eq_true,List.all_eq_true,decide_eq_true_eq]
    exact⟨by omega,fun r hr=>Nat.le_trans (h5 r hr) (by omega)⟩
   have w1:nS ((n:Int)+1)=((n+1:Nat):Int):=by rw[nP (by omega) (by omega)];omega
   have hgl:∀x:List DC,(om p [x]).1.oe.length≤p.oe.length+1:=fun x=>by
    unfold om
    cases (bif !(qP p) then true else !(qP (⟨p.oA,p.nG,p.Count,p.oe++[x]⟩:nj)))
    ·simp
    ·simp
   simp only[yo,ht,hm,hr,hd,hp,bP,LH,hdv,w1,ng,cond_true,nqN]
   cases hN:(nU na m domain d).2.2
   ·simp only[Bool.not_false,cond_true]
    rfl
   ·simp only[Bool.not_true,cond_false]
    have go:∀a2:Rows,a2.length≤a.length+1→(∀r∈a2,(rS r 6).length≤500000000000+400*n+400)→_:=fun a2 e1 e2=>ih (n+1) N (nU na m domain d).2.1 (om p [[.int (nU na m domain d).1.qf]]).1 a2 (by omega) (by omega) (Nat.le_trans (hgl _) (by omega)) (by omega) (fun r hr=>Nat.le_trans (e2 r hr) (by omega))
    unfold nqM nu8
    have EI:∀(a b:Bool) (x y:Rows),(bif a then bif b then x else y else y)=bif (bif a then b else false) then x else y:=fun a b x y=>by cases a<;>rfl
    rw[EI]
    cases h0:decide (0≤pL p (nU na m domain d).1.qf)
    ·rw[nxs (Int.not_le.1 (of_decide_eq_false h0))]
     exact go a (by omega) (fun r hr=>Nat.le_trans (h5 r hr) (by omega))
    ·simp only[cond_true]
     cases hC:(bif (tv na m domain (pL p (nU na m domain d).1.qf) (nU na m domain d).1.Len).2 then (ud (tv na m domain (pL p (nU na m domain d).1.qf) (nU na m domain d).1.Len).1).2==0 else false)
     ·exact go a (by omega) (fun r hr=>Nat.le_trans (h5 r hr) (by omega))
     ·exact go _ (ncy _ _) (ZV h5)
 have:=key B 0 1002 q.Driver p streams (by omega) (by omega) (by omega) (by omega) (fun r hr=>s3 r hr)
 exact this
def na9 (k_:Int→nt→α) (h:nt) (k budget:Int):α:=
 let z0:nc×nr×nj×Rows×Int:=qk h.Maps h.n_ 0 (nr.nd (nth h.Rx (Int.toNat k)) 0) (nj.nd (nth h.nR (Int.toNat k)) 0) h.oE budget
 let z1:nr:=z0.2.1
 let z2:nE:=z1.Ring
 let z3:nf:=z1.Device
 let z4:nf:=z1.Driver
 let z5:pr:=z1.pO
 let z6:nC:=z5.nV
 let z7:nA:=z6.qO
 let z8:nj:=z0.2.2.1
 bif Ei (Ei (Ei (Ei (Ei (Ei (Ei (Ei (Ei true (idx k h.Rx)) (inl (Int.toNat k) h.Rx)) (idx k h.nR)) (inl (Int.toNat k) h.nR)) (ngu h.Maps h.n_ 0 (nr.nd (nth h.Rx (Int.toNat k)) 0) (nj.nd (nth h.nR (Int.toNat k)) 0) h.oE budget)) (idx k h.Rx)) (inl (Int.toNat k) h.Rx)) (idx k h.nR)) ((inl (Int.toNat k) h.nR) && (Nat.beq (Int.toNat k) (Int.toNat k))) then
  k_ z0.2.2.2.2 (⟨z0.1,h.Maps,h.Tx,List.set h.Rx (Int.toNat k) (bT (nth h.Rx (Int.toNat k)) 0 (nr.enc z1)),List.set h.nR (Int.toNat k) (bT (nth h.nR (Int.toNat k)) 0 (nj.enc z8)),h.nN,h.nT,h.Filter,h.nk,z0.2.2.2.1,h.p9,h.tU,h.oG,h.oU,h.Counters⟩:nt)
 else ke
def phQ (h:nt) (k budget:Int):nc×nr×nj×Rows×Int:=qk h.Maps h.n_ 0 (nr.nd (nth h.Rx k.toNat) 0) (nj.nd (nth h.nR k.toNat) 0) h.oE budget
def nmn (h:nt) (k budget:Int):Bool:=(decide (0≤k) && (decide (k<len h.Rx) && decide (k<len h.nR))) && ngu h.Maps h.n_ 0 (nr.nd (nth h.Rx k.toNat) 0) (nj.nd (nth h.nR k.toNat) 0) h.oE budget
def Pr (h:nt) (k budget:Int):Int×nt:=((phQ h k budget).2.2.2.2, {h with n_:=(phQ h k budget).1,Rx:=List.set h.Rx k.toNat (nr.enc (phQ h k budget).2.1),nR:=List.set h.nR k.toNat (nj.enc (phQ h k budget).2.2.1),oE:=(phQ h k budget).2.2.2.1})
theorem nnb (k_:Int→nt→α) (h:nt) (k budget:Int) (h_h:kc nt.ct h.enc) (aJ:nmn h k budget=true):na9 ke k_ h k budget=k_ (Pr h k budget).1 (Pr h k budget).2:=by
 obtain⟨hl,hw⟩:=oJ (nt.nuy h_h)
 obtain⟨j_,hw2⟩:=oJ (nt.Sg h_h)
 have HH:=aJ
 simp only[nmn,Bool.and_eq_true,decide_eq_true_eq] at HH
 obtain⟨⟨h0,h1,h2⟩,h3⟩:=HH
 obtain⟨c,rfl⟩:∃c:Nat,k=(c:Int):=⟨k.toNat,by omega⟩
 rw[Int.toNat_natCast] at h3
 have hk:c<h.Rx.length:=by simp only[len] at h1;omega
 have hp:c<h.nR.length:=by simp only[len] at h2;omega
 have e1:=congrArg List.length (nr.eta (hw _ (qi hk)))
 have e2:=congrArg List.length (nj.eta (hw2 _ (qi hp)))
 have er1:∀q:nr,bT (nth h.Rx c) 0 (nr.enc q)=nr.enc q:=fun q=>qL (e1.symm.trans rfl)
 have er2:∀q:nj,bT (nth h.nR c) 0 (nj.enc q)=nj.enc q:=fun q=>qL (e2.symm.trans rfl)
 unfold na9 Pr phQ
 rw[Int.toNat_natCast]
 refine pT (by simp only[nY hk,qC hk,nY hp,qC hp,h3,Nat.beq_refl,ng,Bool.and_self]) ?_
 rw[er1,er2]
def ux (k_:nt→Int→α) (budget x:Int) (oP:Int→Int→Int→Int→Int→Int→Int→Int→Int→Int→Int→Bool→Bytes→Bool→Int→Int→Int→Int→Int→Rows→Rows→Rows→Rows→Rows→Rows→Rows→Rows→Rows→Rows→Rows→Rows→Rows→Rows→Rows→Rows→α) (total oy oh pg ph pj pk pn po pq r_:Int) (tn:Bool) (rE:Bytes) (rm:Bool) (rF rG rH rJ rK:Int) (og ou oz n7 nZ oX qe pR oQ rL rM oT oY oR oS sb:Rows):α:=
 let z0:Bool:=Ei (Ei true (idx oy qe)) (inl (Int.toNat oy) qe)
 let z1:Bool:=Ei (Ei true (idx oy pR)) (inl (Int.toNat oy) pR)
 let z2:Rows:=List.set pR (Int.toNat oy) (bT (nth pR (Int.toNat oy)) 0 [.bool true])
 let z3:Rows:=List.set qe (Int.toNat oy) (bT (nth qe (Int.toNat oy)) 0 (nx.enc ((sq (nx.nd (nth qe (Int.toNat oy)) 0)).1)))
 let z4:nv:=(⟨(⟨oh,pg,ph,pj⟩:nE),(⟨pk,pn,po,oz⟩:nj),n7,pq⟩:nv)
 let z5:nm:=(⟨rL,(⟨rM⟩:ni),(⟨rE,oT⟩:nI)⟩:nm)
 let z6:ot:=(⟨rF,rG,rH,rJ,rK⟩:ot)
 let z7:nt:=(⟨(⟨og⟩:nc),ou,z4,nZ,oX,z3,z2,(⟨r_,tn,oQ⟩:nF),z5,oY,rm,oR,oS,sb,z6⟩:nt)
 let z8:Int×nt:=Pr z7 oy budget
 let z9:Int:=z8.1
 let TR:nt:=z8.2
 let z11:Rows:=TR.nT
 let z12:Rows:=TR.nN
 let z13:Bool:=idx oy z12
 let z14:Bool:=inl (Int.toNat oy) z12
 let z15:Int:=nS (total+z9)
 let z16:nv:=TR.Tx
 let z17:nE:=z16.Ring
 let z18:Int:=z17.oA
 let z19:Int:=z17.nG
 let z20:Int:=z17.Head
 let z21:Int:=z17.qQ
 let z22:nj:=z16.n9
 let z23:Int:=z22.oA
 let z24:Int:=z22.nG
 let z25:Int:=z22.Count
 let z26:Int:=z16.Next
 let z27:nF:=TR.Filter
 let z28:Int:=z27.Wj
 let z29:Bool:=z27.oH
 let z30:nm:=TR.nk
 let z31:nI:=z30.oa
 let z32:Bytes:=z31.Key
 let z33:Bool:=TR.p9
 let z34:ot:=TR.Counters
 let z35:Int:=z34.Frames
 let z36:Int:=z34.Bad
 let z37:Int:=z34.pX
 let z38:Int:=z34.qz
 let z39:Int:=z34.tz
 let z40:Rows:=TR.n_.nL
 let z41:Rows:=TR.Maps
 let z42:Rows:=z22.oe
 let z43:Rows:=z16.nD
 let z44:Rows:=TR.Rx
 let z45:Rows:=TR.nR
 let z46:List DC:=nth z12 (Int.toNat oy)
 let z47:nx:=nkd (nx.nd z46 0)
 let z48:Rows:=z27.pE
 let z49:Rows:=z30.oM
 let z50:Rows:=z30.Table.nH
 let z51:Rows:=z31.Table
 let z52:Rows:=TR.oE
 let z53:Rows:=TR.tU
 let z54:Rows:=TR.oG
 let z55:Rows:=TR.oU
 let z56:nt:=(⟨(⟨og⟩:nc),ou,z4,nZ,oX,z3,pR,(⟨r_,tn,oQ⟩:nF),z5,oY,rm,oR,oS,sb,z6⟩:nt)
 let z57:Int×nt:=Pr z56 oy budget
 let z58:Int:=z57.1
 let z59:nt:=z57.2
 let z60:Rows:=z59.nT
 let z61:Rows:=z59.nN
 let z62:Bool:=idx oy z61
 let z63:Bool:=inl (Int.toNat oy) z61
 let z64:Int:=nS (total+z58)
 let z65:nv:=z59.Tx
 let z66:nE:=z65.Ring
 let z67:Int:=z66.oA
 let z68:Int:=z66.nG
 let z69:Int:=z66.Head
 let z70:Int:=z66.qQ
 let z71:nj:=z65.n9
 let z72:Int:=z71.oA
 let z73:Int:=z71.nG
 let z74:Int:=z71.Count
 let z75:Int:=z65.Next
 let z76:nF:=z59.Filter
 let z77:Int:=z76.Wj
 let z78:Bool:=z76.oH
 let z79:nm:=z59.nk
 let z80:nI:=z79.oa
 let z81:Bytes:=z80.Key
 let z82:Bool:=z59.p9
 let z83:ot:=z59.Counters
 let z84:Int:=z83.Frames
 let z85:Int:=z83.Bad
 let z86:Int:=z83.pX
 let z87:Int:=z83.qz
 let z88:Int:=z83.tz
 let z89:Rows:=z59.n_.nL
 let z90:Rows:=z59.Maps
 let z91:Rows:=z71.oe
 let z92:Rows:=z65.nD
 let z93:Rows:=z59.Rx
 let z94:Rows:=z59.nR
 let z95:List DC:=nth z61 (Int.toNat oy)
 let z96:nx:=nkd (nx.nd z95 0)
 let z97:Rows:=z76.pE
 let z98:Rows:=z79.oM
 let z99:Rows:=z79.Table.nH
 let nxM:Rows:=z80.Table
 let nxN:Rows:=z59.oE
 let nxO:Rows:=z59.tU
 let nxP:Rows:=z59.oG
 let nxQ:Rows:=z59.oU
 bif decide (oy<x) then
  bif z0 then
   bif z0 then
    bif (sq (nx.nd (nth qe (Int.toNat oy)) 0)).2 then
     bif z1 then
      bif Ei (Ei true (idx oy z2)) (inl (Int.toNat oy) z2) then
       bif !(rB (nth z2 (Int.toNat oy)) 0) then oP total (nS (oy+1)) oh pg ph pj pk pn po pq r_ tn rE rm rF rG rH rJ rK og ou oz n7 nZ oX z3 z2 oQ rL rM oT oY oR oS sb
       else bif Ei true (nmn z7 oy budget) then
         bif decide (z9<budget) then
          bif Ei (Ei true (idx oy z11)) (inl (Int.toNat oy) z11) then
           bif Ei (Ei (Ei (Ei true z13) z14) z13) z14 then
            oP z15 (nS (oy+1)) z18 z19 z20 z21 z23 z24 z25 z26 z28 z29 z32 z33 z35 z36 z37 z38 z39 z40 z41 z42 z43 z44 z45 (List.set z12 (Int.toNat oy) (bT z46 0 (nx.enc z47))) (List.set z11 (Int.toNat oy) (bT (nth z11 (Int.toNat oy)) 0 [.bool false])) z48 z49 z50 z51 z52 z53 z54 z55
           else ke
          else ke
         else oP z15 (nS (oy+1)) z18 z19 z20 z21 z23 z24 z25 z26 z28 z29 z32 z33 z35 z36 z37 z38 z39 z40 z41 z42 z43 z44 z45 z12 z11 z48 z49 z50 z51 z52 z53 z54 z55
        else ke
      else ke
     else ke
    else bif z1 then
      bif !(rB (nth pR (Int.toNat oy)) 0) then oP total (nS (oy+1)) oh pg ph pj pk pn po pq r_ tn rE rm rF rG rH rJ rK og ou oz n7 nZ oX z3 pR oQ rL rM oT oY oR oS sb
      else bif Ei true (nmn z56 oy budget) then
        bif decide (z58<budget) then
         bif Ei (Ei true (idx oy z60)) (inl (Int.toNat oy) z60) then
          bif Ei (Ei (Ei (Ei true z62) z63) z62) z63 then
           oP z64 (nS (oy+1)) z67 z68 z69 z70 z72 z73 z74 z75 z77 z78 z81 z82 z84 z85 z86 z87 z88 z89 z90 z91 z92 z93 z94 (List.set z61 (Int.toNat oy) (bT z95 0 (nx.enc z96))) (List.set z60 (Int.toNat oy) (bT (nth z60 (Int.toNat oy)) 0 [.bool false])) z97 z98 z99 nxM nxN nxO nxP nxQ
          else ke
         else ke
        else oP z64 (nS (oy+1)) z67 z68 z69 z70 z72 z73 z74 z75 z77 z78 z81 z82 z84 z85 z86 z87 z88 z89 z90 z91 z92 z93 z94 z61 z60 z97 z98 z99 nxM nxN nxO nxP nxQ
       else ke
     else ke
   else ke
  else ke
 else k_ (⟨(⟨og⟩:nc),ou,z4,nZ,oX,qe,pR,(⟨r_,tn,oQ⟩:nF),z5,oY,rm,oR,oS,sb,z6⟩:nt) total
def qU (k_:nt→Int→α) (N:Nat) (budget x:Int) (m_:Nat):Int→Int→Int→Int→Int→Int→Int→Int→Int→Int→Int→Bool→Bytes→Bool→Int→Int→Int→Int→Int→Rows→Rows→Rows→Rows→Rows→Rows→Rows→Rows→Rows→Rows→Rows→Rows→Rows→Rows→Rows→Rows→α:=
 Nat.rec (motive:=fun _=>Int→Int→Int→Int→Int→Int→Int→Int→Int→Int→Int→Bool→Bytes→Bool→Int→Int→Int→Int→Int→Rows→Rows→Rows→Rows→Rows→Rows→Rows→Rows→Rows→Rows→Rows→Rows→Rows→Rows→Rows→Rows→α) (fun _ _ _ _ _ _ _ _ _ _ _ _ _ _ _ _ _ _ _ _ _ _ _ _ _ _ _ _ _ _ _ _ _ _ _=>ke) (fun _ oP=>ux ke k_ budget x oP) m_
theorem PN (k_:nt→Int→α) (N:Nat) (budget x:Int) (m_:Nat):qU ke k_ N budget x (m_+1)=ux ke k_ budget x (qU ke k_ N budget x m_):=rfl
def w4 (k_:nt→Int→α) (l0:Int→Int→Int→Int→Int→Int→Int→Int→Int→Int→Int→Int→Bool→Bytes→Bool→Int→Int→Int→Int→Int→Rows→Rows→Rows→Rows→Rows→Rows→Rows→Rows→Rows→Rows→Rows→Rows→Rows→Rows→Rows→Rows→α) (h:nt) (budget:Int):α:=
 bif Ei true (vq h) then
  bif L1 (!(OC h)) (Ei true (Z1 h)) (Ei true (Z1 h)) then
   bif bif !(OC h) then true else !(nh budget 1 1000) then k_ (oD h) 0
   else l0 (len ((oD h).Rx)) 0 0 ((((oD h).Tx).Ring).oA) ((((oD h).Tx).Ring).nG) ((((oD h).Tx).Ring).Head) ((((oD h).Tx).Ring).qQ) ((((oD h).Tx).n9).oA) ((((oD h).Tx).n9).nG) ((((oD h).Tx).n9).Count) (((oD h).Tx).Next) (((oD h).Filter).Wj) (((oD h).Filter).oH) ((((oD h).nk).oa).Key) ((oD h).p9) (((oD h).Counters).Frames) (((oD h).Counters).Bad) (((oD h).Counters).pX) (((oD h).Counters).qz) (((oD h).Counters).tz) (((oD h).n_).nL) ((oD h).Maps) ((((oD h).Tx).n9).oe) (((oD h).Tx).nD) ((oD h).Rx) ((oD h).nR) ((oD h).nN) ((oD h).nT) (((oD h).Filter).pE) (((oD h).nk).oM) ((((oD h).nk).Table).nH) ((((oD h).nk).oa).Table) ((oD h).oE) ((oD h).tU) ((oD h).oG) ((oD h).oU)
  else ke
 else ke
def wZ (k_:nt→Int→α) (N:Nat) (h:nt) (budget:Int):α:=w4 ke k_ (fun x=>qU ke k_ N budget x N) h budget
def hsQ (o:nt) (i:Nat) (budget:Int):nc×nr×nj×Rows×Int:=qk o.Maps o.n_ 0 (nr.nd (nth o.Rx i) 0) (nj.nd (nth o.nR i) 0) o.oE budget
def hsV (o:nt) (i:Nat):nx×Bool:=sq (nx.nd (nth o.nN i) 0)
def T_ (budget:Int) (i:Nat) (s:nt×Int):nt×Int:=
 bif !(bif (hsV s.1 i).2 then true else rB (nth s.1.nT i) 0) then ({s.1 with nN:=List.set s.1.nN i (nx.enc (hsV s.1 i).1),nT:=bif (hsV s.1 i).2 then List.set s.1.nT i [.bool true] else s.1.nT},s.2)
 else bif decide ((hsQ s.1 i budget).2.2.2.2<budget) then ({s.1 with n_:=(hsQ s.1 i budget).1,Rx:=List.set s.1.Rx i (nr.enc (hsQ s.1 i budget).2.1),nR:=List.set s.1.nR i (nj.enc (hsQ s.1 i budget).2.2.1),oE:=(hsQ s.1 i budget).2.2.2.1,nN:=List.set s.1.nN i (nx.enc (nkd (hsV s.1 i).1)),nT:=List.set s.1.nT i [.bool false]},nS (s.2+(hsQ s.1 i budget).2.2.2.2))
 else ({s.1 with n_:=(hsQ s.1 i budget).1,Rx:=List.set s.1.Rx i (nr.enc (hsQ s.1 i budget).2.1),nR:=List.set s.1.nR i (nj.enc (hsQ s.1 i budget).2.2.1),oE:=(hsQ s.1 i budget).2.2.2.1,nN:=List.set s.1.nN i (nx.enc (hsV s.1 i).1),nT:=bif (hsV s.1 i).2 then List.set s.1.nT i [.bool true] else s.1.nT},nS (s.2+(hsQ s.1 i budget).2.2.2.2))
def Z2 (h:nt):Bool:=h.nR.all (fun r=>decide ((rR r 3).length≤8000000)) && (decide (h.oE.length≤4000000) && h.oE.all (fun r=>decide ((rS r 6).length≤400000000000)))
def sQ (h:nt) (budget:Int):Bool:=vq h && (Z1 h && Z2 h)
def o_ (h:nt) (budget:Int):nt×Int:=bif bif !(OC h) then true else !(nh budget 1 1000) then (h,0) else itN (T_ budget) h.Rx.length 0 (h,0)
theorem njP {l:Rows} {i:Nat} (h:i<l.length):List.set l i (nth l i)=l:=by
 simp [nth,List.getD_eq_getElem?_getD,h]
theorem nmm {l:Rows} {i j:Nat} (h:i≠j) (x:List DC):nth (List.set l i x) j=nth l j:=by
 simp only[nth,List.getD_eq_getElem?_getD,List.getElem?_set_ne h]
theorem nuh (l:Rows) (m:nc) (d:Int):∀(f:Nat) (q:nf) (p:nj) (a:Rows) (n:Int) (D:Nat),(∀r∈a,(rS r 6).length≤D)→
  (nqN l m d f q p a n).2.1.oe.length≤p.oe.length+f∧(nqN l m d f q p a n).2.2.1.length≤a.length+f∧∀r∈(nqN l m d f q p a n).2.2.1,(rS r 6).length≤D+400*f
 | 0,_,_,_,_,_,h=>⟨Nat.le_refl _,Nat.le_refl _,fun r hr=>Nat.le_trans (h r hr) (by omega)⟩
 | f+1,q,p,a,n,D,h=>by
  simp only[nqN]
  cases (nU l m d q).2.2
  ·exact⟨Nat.le_add_right _ _,Nat.le_add_right _ _,fun r hr=>Nat.le_trans (h r hr) (by omega)⟩
  ·have hgl:∀x:List DC,(om p [x]).1.oe.length≤p.oe.length+1:=fun x=>by
    unfold om
    cases (bif !(qP p) then true else !(qP (⟨p.oA,p.nG,p.Count,p.oe++[x]⟩:nj)))
    ·simp
    ·simp
   have mJ:(nqM l m d p (nU l m d q).1 a).length≤a.length+1∧∀r∈nqM l m d p (nU l m d q).1 a,(rS r 6).length≤D+400:=by
    unfold nqM
    cases (nu8 l m d p (nU l m d q).1).2
    ·exact⟨Nat.le_succ _,fun r hr=>Nat.le_trans (h r hr) (by omega)⟩
    ·cases ((ud (nu8 l m d p (nU l m d q).1).1).2==0)
     ·exact⟨Nat.le_succ _,fun r hr=>Nat.le_trans (h r hr) (by omega)⟩
     ·exact⟨ncy _ _,ZV h⟩
   obtain⟨h1,h2,h3⟩:=nuh l m d f (nU l m d q).2.1 (om p [[.int (nU l m d q).1.qf]]).1 (nqM l m d p (nU l m d q).1 a) (nS (n+1)) (D+400) mJ.2
   have:=hgl [.int (nU l m d q).1.qf]
   simp only[Bool.not_true,cond_false]
   exact⟨by omega,by omega,fun r hr=>Nat.le_trans (h3 r hr) (by omega)⟩
theorem nrG (l:Rows) (m:nc) (d:Int) (q:nr) (p:nj) (a:Rows) (budget:Int) (D:Nat) (h:∀r∈a,(rS r 6).length≤D):
  (qk l m d q p a budget).1.nL.length=m.nL.length∧(qk l m d q p a budget).2.2.1.oe.length≤p.oe.length+1000∧(qk l m d q p a budget).2.2.2.1.length≤a.length+1000∧∀r∈(qk l m d q p a budget).2.2.2.1,(rS r 6).length≤D+400000:=by
 unfold qk
 cases hg:(bif !(X6 q) then true else bif !(qP p) then true else !(nh budget 0 1000))
 ·have hb:=pA.1 (Ts (ncu (ncu hg).2).2)
  simp only[cond_false,nvs]
  obtain⟨h1,h2,h3⟩:=nuh l m d budget.toNat q.Driver p a 0 D h
  obtain⟨k1,k2⟩:=ns7 l m d q.Ring (nqN l m d budget.toNat q.Driver p a 0).2.1
  exact⟨k1,by omega,by omega,fun r hr=>Nat.le_trans (h3 r hr) (by omega)⟩
 ·exact⟨rfl,Nat.le_add_right _ _,Nat.le_add_right _ _,fun r hr=>Nat.le_trans (h r hr) (by omega)⟩
def hsI (h:nt) (i:Nat) (o:nt):Prop:=o= {h with n_:=o.n_,Rx:=o.Rx,nR:=o.nR,nN:=o.nN,nT:=o.nT,oE:=o.oE} ∧o.n_.nL.length=h.n_.nL.length∧o.Rx.length=h.Rx.length∧o.nR.length=h.nR.length∧o.nN.length=h.nN.length∧o.nT.length=h.nT.length∧
 (∀j,i≤j→nth o.Rx j=nth h.Rx j∧nth o.nR j=nth h.nR j∧nth o.nN j=nth h.nN j∧nth o.nT j=nth h.nT j)∧(∀r∈o.nR,(rR r 3).length≤8000000+1000*i)∧o.oE.length≤4000000+1000*i∧∀r∈o.oE,(rS r 6).length≤400000000000+400000*i
theorem nij {h:nt} (hp:Z2 h=true):hsI h 0 h:=by
 simp only[Z2,Bool.and_eq_true,List.all_eq_true,decide_eq_true_eq] at hp
 exact⟨rfl,rfl,rfl,rfl,rfl,rfl,fun _ _=>⟨rfl,rfl,rfl,rfl⟩,hp.1,hp.2.1,hp.2.2⟩
theorem nue (l:Rows) (i B:Nat) (h:∀r∈l,(rR r 3).length≤B):(nj.nd (nth l i) 0).oe.length≤B:=by
 show (rR (nth l i) 3).length≤B
 by_cases hi:i<l.length
 ·exact h _ (qi hi)
 ·rw[show nth l i=[] by simp [nth,List.getD_eq_getElem?_getD,List.getElem?_eq_none (Nat.le_of_not_lt hi)]]
  exact Nat.zero_le _
theorem npk {h:nt} {budget:Int} {i:Nat} {o:nt} {t:Int} (ho:hsI h i o):hsI h (i+1) (T_ budget i (o,t)).1:=by
 obtain⟨m1,m2,m3,m4,m5,m6,m7,m8,m9,m10⟩:=ho
 obtain⟨k1,k2,k3,k4⟩:=nrG o.Maps o.n_ 0 (nr.nd (nth o.Rx i) 0) (nj.nd (nth o.nR i) 0) o.oE budget _ m10
 have k5:=nue o.nR i _ m8
 have hP:∀(b:Bool) (x:List DC),(bif b then List.set o.nT i x else o.nT).length=o.nT.length∧∀j,i+1≤j→nth (bif b then List.set o.nT i x else o.nT) j=nth o.nT j:=fun b x=>by
  cases b
  ·exact⟨rfl,fun _ _=>rfl⟩
  ·exact⟨List.length_set ..,fun j hj=>nmm (by omega) _⟩
 have hS:∀(l:Rows) (x:List DC),(List.set l i x).length=l.length∧∀j,i+1≤j→nth (List.set l i x) j=nth l j:=fun l x=>⟨List.length_set ..,fun j hj=>nmm (by omega) _⟩
 have fin:∀(M:nc) (R P V L T:Rows),M.nL.length=o.n_.nL.length→(R.length=o.Rx.length∧∀j,i+1≤j→nth R j=nth o.Rx j)→(P.length=o.nR.length∧∀j,i+1≤j→nth P j=nth o.nR j)→(V.length=o.nN.length∧∀j,i+1≤j→nth V j=nth o.nN j)→(L.length=o.nT.length∧∀j,i+1≤j→nth L j=nth o.nT j)→(∀r∈P,(rR r 3).length≤8000000+1000*(i+1))→T.length≤4000000+1000*(i+1)→(∀r∈T,(rS r 6).length≤400000000000+400000*(i+1))→
   hsI h (i+1) {o with n_:=M,Rx:=R,nR:=P,nN:=V,nT:=L,oE:=T} :=by
  intro M R P V L T a1 a2 a3 a4 a5 a6 a7 a8
  refine⟨?_,a1.trans m2,a2.1.trans m3,a3.1.trans m4,a4.1.trans m5,a5.1.trans m6,fun j hj=> ?_,a6,a7,a8⟩
  ·have this:=congrArg (fun x:nt=>({x with n_:=M,Rx:=R,nR:=P,nN:=V,nT:=L,oE:=T} :nt)) m1
   exact this
  ·obtain⟨b1,b2,b3,b4⟩:=m7 j (by omega)
   exact⟨(a2.2 j hj).trans b1,(a3.2 j hj).trans b2,(a4.2 j hj).trans b3,(a5.2 j hj).trans b4⟩
 have q1:∀r∈List.set o.nR i (nj.enc (hsQ o i budget).2.2.1),(rR r 3).length≤8000000+1000*(i+1):=fun r hr=>by
  rcases nuk hr with h | rfl
  ·exact Nat.le_trans (m8 r h) (by omega)
  ·show (hsQ o i budget).2.2.1.oe.length≤_
   unfold hsQ
   omega
 have q2:(hsQ o i budget).2.2.2.1.length≤4000000+1000*(i+1):=by unfold hsQ;omega
 have q3:∀r∈(hsQ o i budget).2.2.2.1,(rS r 6).length≤400000000000+400000*(i+1):=fun r hr=>Nat.le_trans (k4 r hr) (by omega)
 unfold T_
 simp only[]
 cases (!(bif (hsV o i).2 then true else rB (nth o.nT i) 0))
 ·cases decide ((hsQ o i budget).2.2.2.2<budget)
  ·exact fin _ _ _ _ _ _ k1 (hS _ _) (hS _ _) (hS _ _) (hP _ _) q1 q2 q3
  ·exact fin _ _ _ _ _ _ k1 (hS _ _) (hS _ _) (hS _ _) (hS _ _) q1 q2 q3
 ·exact fin o.n_ o.Rx o.nR _ _ o.oE rfl ⟨rfl,fun _ _=>rfl⟩ ⟨rfl,fun _ _=>rfl⟩ (hS _ _) (hP _ _) (fun r hr=>Nat.le_trans (m8 r hr) (by omega)) (by omega) (fun r hr=>Nat.le_trans (m10 r hr) (by omega))
theorem nxa {h:nt} (hk:OC h=true) (s:vq h=true) (pf:Z2 h=true) {i:Nat} {o:nt} (hi:i<h.Rx.length) (ho:hsI h i o) (budget:Int):∀(V P:Rows),nmn (⟨(⟨o.n_.nL⟩:nc),o.Maps,(⟨(⟨o.Tx.Ring.oA,o.Tx.Ring.nG,o.Tx.Ring.Head,o.Tx.Ring.qQ⟩:nE),(⟨o.Tx.n9.oA,o.Tx.n9.nG,o.Tx.n9.Count,o.Tx.n9.oe⟩:nj),o.Tx.nD,o.Tx.Next⟩:nv),o.Rx,o.nR,V,P,(⟨o.Filter.Wj,o.Filter.oH,o.Filter.pE⟩:nF),(⟨o.nk.oM,(⟨o.nk.Table.nH⟩:ni),(⟨o.nk.oa.Key,o.nk.oa.Table⟩:nI)⟩:nm),o.oE,o.p9,o.tU,o.oG,o.oU,(⟨o.Counters.Frames,o.Counters.Bad,o.Counters.pX,o.Counters.qz,o.Counters.tz⟩:ot)⟩:nt) (i:Int) budget=true:=by
 intro V P
 obtain⟨_,n2,r1,r2,r3,r4⟩:=Wi hk
 obtain⟨m1,m2,m3,m4,m5,m6,m7,m8,m9,m10⟩:=ho
 simp only[vq,Bool.and_eq_true] at s
 have s0:=sO s.1
 simp only[Z2,Bool.and_eq_true,List.all_eq_true,decide_eq_true_eq] at pf
 have k5:(nj.nd (nth o.nR i) 0).oe.length≤8000000:=by rw[(m7 i (Nat.le_refl _)).2.1];exact nue h.nR i _ pf.1
 simp only[nmn,ngu,Bool.and_eq_true,decide_eq_true_eq,List.all_eq_true,Int.toNat_natCast,vW,sm,len]
 exact⟨⟨by omega,decide_eq_true (show (i:Int)<(o.Rx.length:Int) by omega),decide_eq_true (show (i:Int)<(o.nR.length:Int) by omega)⟩,by omega,by omega,by omega,fun r hr=>Nat.le_trans (m10 r hr) (by omega)⟩
theorem nrF {h:nt} {budget:Int} (pf:Z2 h=true):∃i,i≤2∧hsI h i (o_ h budget).1:=by
 unfold o_
 cases hg:(bif !(OC h) then true else !(nh budget 1 1000))
 ·have:=(Wi (Ts (ncu hg).1)).2.1
  have:∀(m i:Nat) (o:nt×Int),hsI h i o.1→hsI h (i+m) (itN (T_ budget) m i o).1:=by
   intro m
   induction m with
   | zero=>intro i o ho;exact ho
   | succ m ih=>intro i ⟨o,t⟩ ho;have:=ih (i+1) (T_ budget i (o,t)) (npk (t:=t) ho);rw[show i+(m+1)=i+1+m by omega];exact this
  exact⟨_,by omega,this h.Rx.length 0 (h,0) (nij pf)⟩
 ·exact⟨0,by omega,nij pf⟩
theorem no4 {h:nt} {budget:Int} (hs:vq h=true) (pf:Z2 h=true):vq (o_ h budget).1=true:=by
 obtain⟨i,hi,m1,m2,m3,m4,m5,m6,m7,m8,m9,m10⟩:=nrF (h:=h) (budget:=budget) pf
 generalize (o_ h budget).1=o at*
 rw[m1]
 simp only[vq,Xn,Bool.and_eq_true,List.all_eq_true] at hs ⊢
 obtain⟨t0,t1,t2,t3,t4,t5,t6,t7,t8,t9,t10,t11,t12,t13,t14,t15⟩:=hs
 have h0:=sO t0
 have h4:=sO t4
 have h5:=sO t5.1
 have h6:=sO t6
 have h7:=sO t7
 refine⟨decide_eq_true (by omega),t1,t2,t3,decide_eq_true (by omega),⟨decide_eq_true (by omega),fun r hr=>decide_eq_true (by have:=m8 r hr;show (rR r 3).length≤_;omega)⟩,decide_eq_true (by omega),decide_eq_true (by omega),t8,t9,t10,t11,decide_eq_true (by omega),t13,t14,t15⟩
theorem ngE (k_:nt→Int→α) (h:nt) (budget:Int) (h_h:kc nt.ct h.enc) (aJ:sQ h budget=true):∃N,wZ ke k_ N h budget=k_ (o_ h budget).1 (o_ h budget).2:=by
 obtain⟨hl,hw⟩:=oJ (nt.nuy h_h)
 have hw1:=(oJ (nt.Sg h_h)).2
 have hw2:=(oJ (nt.nag h_h)).2
 have hw3:=(oJ (nt.nae h_h)).2
 simp only[sQ,Bool.and_eq_true] at aJ
 obtain⟨s,b,pf⟩:=aJ
 have s':=s
 simp only[vq,Bool.and_eq_true] at s'
 have s0:=sO s'.1
 refine⟨h.Rx.length+1, ?_⟩
 unfold wZ w4 o_
 rw[show oD h=h from rfl]
 refine pT (uX s) ?_
 refine pT (by rw[b];exact Xj (fun _=>rfl) (fun _=>rfl)) ?_
 refine pH (K:=fun z:nt×Int=>k_ z.1 z.2) (fun _=>rfl) (fun hg=> ?_)
 obtain⟨Mr,Ms⟩:=ncu hg
 have hk:=Ts Mr
 have hbu:=pA.1 (Ts Ms)
 obtain⟨_,n2,r1,r2,r3,r4⟩:=Wi hk
 have key:qU ke k_ (h.Rx.length+1) budget (len h.Rx) (h.Rx.length+1) 0 0 h.Tx.Ring.oA h.Tx.Ring.nG h.Tx.Ring.Head h.Tx.Ring.qQ h.Tx.n9.oA h.Tx.n9.nG h.Tx.n9.Count h.Tx.Next h.Filter.Wj h.Filter.oH h.nk.oa.Key h.p9 h.Counters.Frames h.Counters.Bad h.Counters.pX h.Counters.qz h.Counters.tz h.n_.nL h.Maps h.Tx.n9.oe h.Tx.nD h.Rx h.nR h.nN h.nT h.Filter.pE h.nk.oM h.nk.Table.nH h.nk.oa.Table h.oE h.tU h.oG h.oU=(fun z:nt×Int=>k_ z.1 z.2) (itN (T_ budget) h.Rx.length 0 (h,0)):=by
  refine yG h.Rx.length (fun n i (o:nt×Int)=>qU ke k_ (h.Rx.length+1) budget (len h.Rx) n o.2 i o.1.Tx.Ring.oA o.1.Tx.Ring.nG o.1.Tx.Ring.Head o.1.Tx.Ring.qQ o.1.Tx.n9.oA o.1.Tx.n9.nG o.1.Tx.n9.Count o.1.Tx.Next o.1.Filter.Wj o.1.Filter.oH o.1.nk.oa.Key o.1.p9 o.1.Counters.Frames o.1.Counters.Bad o.1.Counters.pX o.1.Counters.qz o.1.Counters.tz o.1.n_.nL o.1.Maps o.1.Tx.n9.oe o.1.Tx.nD o.1.Rx o.1.nR o.1.nN o.1.nT o.1.Filter.pE o.1.nk.oM o.1.nk.Table.nH o.1.nk.oa.Table o.1.oE o.1.tU o.1.oG o.1.oU) (T_ budget) (fun z:nt×Int=>k_ z.1 z.2) (fun i o=>hsI h i o.1) ?_ ?_ ?_ (h.Rx.length+1) (h,0) (nij pf) (by omega)
  ·rintro i ⟨o,t⟩ hi ho
   exact npk ho
  ·rintro n i ⟨o,t⟩ hi ho
   replace ho:hsI h i o:=ho
   have hph:=nxa hk s pf hi ho budget
   obtain⟨m1,m2,m3,m4,m5,m6,m7,_,_,_⟩:=ho
   have f1:=congrArg nt.Maps m1
   replace f1:o.Maps=h.Maps:=f1
   obtain⟨g1,g2,g3,g4⟩:=m7 i (Nat.le_refl _)
   have GI:i<o.Rx.length:=by omega
   have hi3:i<o.nR.length:=by omega
   have hi4:i<o.nN.length:=by omega
   have hi5:i<o.nT.length:=by omega
   show qU ke k_ (h.Rx.length+1) budget (len h.Rx) (n+1) t (i:Int) o.Tx.Ring.oA o.Tx.Ring.nG o.Tx.Ring.Head o.Tx.Ring.qQ o.Tx.n9.oA o.Tx.n9.nG o.Tx.n9.Count o.Tx.Next o.Filter.Wj o.Filter.oH o.nk.oa.Key o.p9 o.Counters.Frames o.Counters.Bad o.Counters.pX o.Counters.qz o.Counters.tz o.n_.nL o.Maps o.Tx.n9.oe o.Tx.nD o.Rx o.nR o.nN o.nT o.Filter.pE o.nk.oM o.nk.Table.nH o.nk.oa.Table o.oE o.tU o.oG o.oU=_
   rw[PN]
   have er1:∀q:nr,bT (nth o.Rx i) 0 (nr.enc q)=nr.enc q:=fun q=>by rw[g1];exact qL ((congrArg List.length (nr.eta (hw _ (qi hi)))).symm.trans rfl)
   have er2:∀q:nj,bT (nth o.nR i) 0 (nj.enc q)=nj.enc q:=fun q=>by rw[g2];exact qL ((congrArg List.length (nj.eta (hw1 _ (qi (show i<h.nR.length by omega))))).symm.trans rfl)
   have er3:∀q:nx,bT (nth o.nN i) 0 (nx.enc q)=nx.enc q:=fun q=>by rw[g3];exact qL ((congrArg List.length (nx.eta (hw2 _ (qi (show i<h.nN.length by omega))))).symm.trans rfl)
   have er4:∀v w:nx,bT (nx.enc v) 0 (nx.enc w)=nx.enc w:=fun _ _=>rfl
   have dv:∀v:nx,nx.nd (nx.enc v) 0=v:=fun _=>rfl
   have hb:∃b,nth o.nT i=[DC.bool b]:=⟨rB (nth h.nT i) 0,by rw[g4];exact (nqP (hw3 _ (qi (show i<h.nT.length by omega)))).symm⟩
   obtain⟨bp,hb⟩:=hb
   have nwy:List.set o.nT i [DC.bool bp]=o.nT:=by rw[←hb];exact njP hi5
   have w1:nS ((i:Int)+1)=(i:Int)+1:=nP (by omega) (by omega)
   have hq:∀V P:Rows,phQ (⟨(⟨o.n_.nL⟩:nc),o.Maps,(⟨(⟨o.Tx.Ring.oA,o.Tx.Ring.nG,o.Tx.Ring.Head,o.Tx.Ring.qQ⟩:nE),(⟨o.Tx.n9.oA,o.Tx.n9.nG,o.Tx.n9.Count,o.Tx.n9.oe⟩:nj),o.Tx.nD,o.Tx.Next⟩:nv),o.Rx,o.nR,V,P,(⟨o.Filter.Wj,o.Filter.oH,o.Filter.pE⟩:nF),(⟨o.nk.oM,(⟨o.nk.Table.nH⟩:ni),(⟨o.nk.oa.Key,o.nk.oa.Table⟩:nI)⟩:nm),o.oE,o.p9,o.tU,o.oG,o.oU,(⟨o.Counters.Frames,o.Counters.Bad,o.Counters.pX,o.Counters.qz,o.Counters.tz⟩:ot)⟩:nt) (i:Int) budget=hsQ o i budget:=fun V P=>rfl
   simp only[ux,pw hi,nY GI,qC GI,nY hi3,qC hi3,nY hi4,qC hi4,nY hi5,qC hi5,RS,O_,Int.toNat_natCast,Nat.beq_refl,Bool.and_self,er1,er2,er3,w1,hb,Rm,yK,ng,nn,cond_true,T_,hsV,hph,Pr,hq]
   cases hT:(sq (nx.nd (nth o.nN i) 0)).2<;>cases bp<;>simp only[nwy,Nk hi5,Nk hi4,List.set_set,nY hi5,qC hi5,RS,O_,yK,nn,nu9,Rm,er4,dv,hb,hph,Pr,hq,Bool.not_true,Bool.not_false,cond_true,cond_false,ng]
   all_goals first
    | rfl
    | (cases decide ((hsQ o i budget).2.2.2.2<budget)<;>rfl)
  ·rintro n ⟨o,t⟩ ho
   have m1:=ho.1
   show qU ke k_ (h.Rx.length+1) budget (len h.Rx) (n+1) t (h.Rx.length:Int) o.Tx.Ring.oA o.Tx.Ring.nG o.Tx.Ring.Head o.Tx.Ring.qQ o.Tx.n9.oA o.Tx.n9.nG o.Tx.n9.Count o.Tx.Next o.Filter.Wj o.Filter.oH o.nk.oa.Key o.p9 o.Counters.Frames o.Counters.Bad o.Counters.pX o.Counters.qz o.Counters.tz o.n_.nL o.Maps o.Tx.n9.oe o.Tx.nD o.Rx o.nR o.nN o.nT o.Filter.pE o.nk.oM o.nk.Table.nH o.nk.oa.Table o.oE o.tU o.oG o.oU=_
   rw[PN]
   simp only[ux,nX,cond_false]
 exact key
def wB (k_:nt→Int→α) (budget:Int) (h_2 qd:Rows) (oh pg ph pj pk pn po pq r_:Int) (tn:Bool) (rE:Bytes) (rm:Bool) (rF rG rH rJ rK:Int) (ou oz n7 oQ rL rM oT oR oS sb:Rows) (oP:Int→Int→Rows→Rows→Rows→Rows→Rows→Rows→α) (sum k:Int) (og nZ oX qe pR oY:Rows):α:=
 let z0:Bool:=Ei (Ei true (idx k qe)) (inl (Int.toNat k) qe)
 let z1:Bool:=Ei (Ei (Ei (Ei true (idx k pR)) (inl (Int.toNat k) pR)) (idx k pR)) (inl (Int.toNat k) pR)
 let z2:Rows:=bif rB (nth pR (Int.toNat k)) 0 then List.set pR (Int.toNat k) (bT (nth pR (Int.toNat k)) 0 [.bool true]) else List.set pR (Int.toNat k) (bT (nth pR (Int.toNat k)) 0 [.bool ((sq (nx.nd (nth qe (Int.toNat k)) 0)).2)])
 let z3:Bool:=Ei (Ei true (idx k z2)) (inl (Int.toNat k) z2)
 let z4:List DC:=nth z2 (Int.toNat k)
 let z5:Rows:=List.set qe (Int.toNat k) (bT (nth qe (Int.toNat k)) 0 (nx.enc ((sq (nx.nd (nth qe (Int.toNat k)) 0)).1)))
 let z6:Bool:=Ei (Ei true (idx k nZ)) (inl (Int.toNat k) nZ)
 let z7:nc×nr×nj×Rows×Int:=qk h_2 (⟨og⟩:nc) 0 (nr.nd (nth nZ (Int.toNat k)) 0) (nj.nd (nth oX (Int.toNat k)) 0) oY budget
 let z8:Int:=z7.2.2.2.2
 let z9:Bool:=idx k z5
 let TR:Bool:=inl (Int.toNat k) z5
 let z11:Int:=nS (sum+z8)
 let z12:Rows:=z7.1.nL
 let z13:Rows:=List.set nZ (Int.toNat k) (bT (nth nZ (Int.toNat k)) 0 (nr.enc z7.2.1))
 let z14:Rows:=List.set oX (Int.toNat k) (bT (nth oX (Int.toNat k)) 0 (nj.enc z7.2.2.1))
 let z15:List DC:=nth z5 (Int.toNat k)
 let z16:nx:=nkd (nx.nd z15 0)
 let z17:Rows:=z7.2.2.2.1
 bif decide (k<len qd) then
  bif z0 then
   bif z0 then
    bif L1 (rB (nth pR (Int.toNat k)) 0) z1 z1 then
     bif z3 then
      bif !(rB z4 0) then oP sum (nS (k+1)) og nZ oX z5 z2 oY
      else bif Ei (Ei (Ei z6 (idx k oX)) (inl (Int.toNat k) oX)) (ngu h_2 (⟨og⟩:nc) 0 (nr.nd (nth nZ (Int.toNat k)) 0) (nj.nd (nth oX (Int.toNat k)) 0) oY budget) then
        bif z6 then
         bif Ei (Ei true (idx k oX)) ((inl (Int.toNat k) oX) && (Nat.beq (Int.toNat k) (Int.toNat k))) then
          bif decide (z8<budget) then
           bif z3 then
            bif Ei (Ei (Ei (Ei true z9) TR) z9) TR then
             oP z11 (nS (k+1)) z12 z13 z14 (List.set z5 (Int.toNat k) (bT z15 0 (nx.enc z16))) (List.set z2 (Int.toNat k) (bT z4 0 [.bool false])) z17
            else ke
           else ke
          else oP z11 (nS (k+1)) z12 z13 z14 z5 z2 z17
         else ke
        else ke
       else ke
     else ke
    else ke
   else ke
  else ke
 else k_ (⟨(⟨og⟩:nc),ou,(⟨(⟨oh,pg,ph,pj⟩:nE),(⟨pk,pn,po,oz⟩:nj),n7,pq⟩:nv),nZ,oX,qe,pR,(⟨r_,tn,oQ⟩:nF),(⟨rL,(⟨rM⟩:ni),(⟨rE,oT⟩:nI)⟩:nm),oY,rm,oR,oS,sb,(⟨rF,rG,rH,rJ,rK⟩:ot)⟩:nt) sum
def sg (k_:nt→Int→α) (N:Nat) (budget:Int) (h_2 qd:Rows) (oh pg ph pj pk pn po pq r_:Int) (tn:Bool) (rE:Bytes) (rm:Bool) (rF rG rH rJ rK:Int) (ou oz n7 oQ rL rM oT oR oS sb:Rows) (m_:Nat):Int→Int→Rows→Rows→Rows→Rows→Rows→Rows→α:=
 Nat.rec (motive:=fun _=>Int→Int→Rows→Rows→Rows→Rows→Rows→Rows→α) (fun _ _ _ _ _ _ _ _=>ke) (fun _ oP=>wB ke k_ budget h_2 qd oh pg ph pj pk pn po pq r_ tn rE rm rF rG rH rJ rK ou oz n7 oQ rL rM oT oR oS sb oP) m_
theorem PW (k_:nt→Int→α) (N:Nat) (budget:Int) (h_2 qd:Rows) (oh pg ph pj pk pn po pq r_:Int) (tn:Bool) (rE:Bytes) (rm:Bool) (rF rG rH rJ rK:Int) (ou oz n7 oQ rL rM oT oR oS sb:Rows) (m_:Nat):sg ke k_ N budget h_2 qd oh pg ph pj pk pn po pq r_ tn rE rm rF rG rH rJ rK ou oz n7 oQ rL rM oT oR oS sb (m_+1)=wB ke k_ budget h_2 qd oh pg ph pj pk pn po pq r_ tn rE rm rF rG rH rJ rK ou oz n7 oQ rL rM oT oR oS sb (sg ke k_ N budget h_2 qd oh pg ph pj pk pn po pq r_ tn rE rm rF rG rH rJ rK ou oz n7 oQ rL rM oT oR oS sb m_):=rfl
def Oj (k_:nt→Int→α) (l0:Rows→Rows→Int→Int→Int→Int→Int→Int→Int→Int→Int→Bool→Bytes→Bool→Int→Int→Int→Int→Int→Rows→Rows→Rows→Rows→Rows→Rows→Rows→Rows→Rows→Rows→Int→Int→Rows→Rows→Rows→Rows→Rows→Rows→α) (h:nt) (budget:Int):α:=
 bif Ei true (vq h) then
  bif L1 (!(OC h)) (Ei true (Z1 h)) (Ei true (Z1 h)) then
   bif bif !(OC h) then true else !(nh budget 1 1000) then k_ (oD h) 0
   else l0 h.Maps h.Rx ((((oD h).Tx).Ring).oA) ((((oD h).Tx).Ring).nG) ((((oD h).Tx).Ring).Head) ((((oD h).Tx).Ring).qQ) ((((oD h).Tx).n9).oA) ((((oD h).Tx).n9).nG) ((((oD h).Tx).n9).Count) (((oD h).Tx).Next) (((oD h).Filter).Wj) (((oD h).Filter).oH) ((((oD h).nk).oa).Key) ((oD h).p9) (((oD h).Counters).Frames) (((oD h).Counters).Bad) (((oD h).Counters).pX) (((oD h).Counters).qz) (((oD h).Counters).tz) ((oD h).Maps) ((((oD h).Tx).n9).oe) (((oD h).Tx).nD) (((oD h).Filter).pE) (((oD h).nk).oM) ((((oD h).nk).Table).nH) ((((oD h).nk).oa).Table) ((oD h).tU) ((oD h).oG) ((oD h).oU) 0 0 (((oD h).n_).nL) ((oD h).Rx) ((oD h).nR) ((oD h).nN) ((oD h).nT) ((oD h).oE)
  else ke
 else ke
def VL (k_:nt→Int→α) (N:Nat) (h:nt) (budget:Int):α:=Oj ke k_ (fun h_2 qd oh pg ph pj pk pn po pq r_ tn rE rm rF rG rH rJ rK ou oz n7 oQ rL rM oT oR oS sb=>sg ke k_ N budget h_2 qd oh pg ph pj pk pn po pq r_ tn rE rm rF rG rH rJ rK ou oz n7 oQ rL rM oT oR oS sb N) h budget
theorem nhE (k_:nt→Int→α) (h:nt) (budget:Int) (h_h:kc nt.ct h.enc) (aJ:sQ h budget=true):∃N,VL ke k_ N h budget=k_ (o_ h budget).1 (o_ h budget).2:=by
 obtain⟨hl,hw⟩:=oJ (nt.nuy h_h)
 have hw1:=(oJ (nt.Sg h_h)).2
 have hw2:=(oJ (nt.nag h_h)).2
 have hw3:=(oJ (nt.nae h_h)).2
 simp only[sQ,Bool.and_eq_true] at aJ
 obtain⟨s,b,pf⟩:=aJ
 have s':=s
 simp only[vq,Bool.and_eq_true] at s'
 have s0:=sO s'.1
 refine⟨h.Rx.length+1, ?_⟩
 unfold VL Oj o_
 rw[show oD h=h from rfl]
 refine pT (uX s) ?_
 refine pT (by rw[b];exact Xj (fun _=>rfl) (fun _=>rfl)) ?_
 refine pH (K:=fun z:nt×Int=>k_ z.1 z.2) (fun _=>rfl) (fun hg=> ?_)
 obtain⟨Mr,Ms⟩:=ncu hg
 have hk:=Ts Mr
 have hbu:=pA.1 (Ts Ms)
 obtain⟨_,n2,r1,r2,r3,r4⟩:=Wi hk
 have key:sg ke k_ (h.Rx.length+1) budget h.Maps h.Rx h.Tx.Ring.oA h.Tx.Ring.nG h.Tx.Ring.Head h.Tx.Ring.qQ h.Tx.n9.oA h.Tx.n9.nG h.Tx.n9.Count h.Tx.Next h.Filter.Wj h.Filter.oH h.nk.oa.Key h.p9 h.Counters.Frames h.Counters.Bad h.Counters.pX h.Counters.qz h.Counters.tz h.Maps h.Tx.n9.oe h.Tx.nD h.Filter.pE h.nk.oM h.nk.Table.nH h.nk.oa.Table h.tU h.oG h.oU (h.Rx.length+1) 0 0 h.n_.nL h.Rx h.nR h.nN h.nT h.oE=(fun z:nt×Int=>k_ z.1 z.2) (itN (T_ budget) h.Rx.length 0 (h,0)):=by
  refine yG h.Rx.length (fun n i (o:nt×Int)=>sg ke k_ (h.Rx.length+1) budget h.Maps h.Rx h.Tx.Ring.oA h.Tx.Ring.nG h.Tx.Ring.Head h.Tx.Ring.qQ h.Tx.n9.oA h.Tx.n9.nG h.Tx.n9.Count h.Tx.Next h.Filter.Wj h.Filter.oH h.nk.oa.Key h.p9 h.Counters.Frames h.Counters.Bad h.Counters.pX h.Counters.qz h.Counters.tz h.Maps h.Tx.n9.oe h.Tx.nD h.Filter.pE h.nk.oM h.nk.Table.nH h.nk.oa.Table h.tU h.oG h.oU n o.2 i o.1.n_.nL o.1.Rx o.1.nR o.1.nN o.1.nT o.1.oE) (T_ budget) (fun z:nt×Int=>k_ z.1 z.2) (fun i o=>hsI h i o.1) ?_ ?_ ?_ (h.Rx.length+1) (h,0) (nij pf) (by omega)
  ·rintro i ⟨o,t⟩ hi ho
   exact npk ho
  ·rintro n i ⟨o,t⟩ hi ho
   replace ho:hsI h i o:=ho
   have hph:=nxa hk s pf hi ho budget
   obtain⟨m1,m2,m3,m4,m5,m6,m7,_,_,_⟩:=ho
   have f1:=congrArg nt.Maps m1
   replace f1:o.Maps=h.Maps:=f1
   obtain⟨g1,g2,g3,g4⟩:=m7 i (Nat.le_refl _)
   have GI:i<o.Rx.length:=by omega
   have hi3:i<o.nR.length:=by omega
   have hi4:i<o.nN.length:=by omega
   have hi5:i<o.nT.length:=by omega
   show sg ke k_ (h.Rx.length+1) budget h.Maps h.Rx h.Tx.Ring.oA h.Tx.Ring.nG h.Tx.Ring.Head h.Tx.Ring.qQ h.Tx.n9.oA h.Tx.n9.nG h.Tx.n9.Count h.Tx.Next h.Filter.Wj h.Filter.oH h.nk.oa.Key h.p9 h.Counters.Frames h.Counters.Bad h.Counters.pX h.Counters.qz h.Counters.tz h.Maps h.Tx.n9.oe h.Tx.nD h.Filter.pE h.nk.oM h.nk.Table.nH h.nk.oa.Table h.tU h.oG h.oU (n+1) t (i:Int) o.n_.nL o.Rx o.nR o.nN o.nT o.oE=_
   rw[PW]
   have er1:∀q:nr,bT (nth o.Rx i) 0 (nr.enc q)=nr.enc q:=fun q=>by rw[g1];exact qL ((congrArg List.length (nr.eta (hw _ (qi hi)))).symm.trans rfl)
   have er2:∀q:nj,bT (nth o.nR i) 0 (nj.enc q)=nj.enc q:=fun q=>by rw[g2];exact qL ((congrArg List.length (nj.eta (hw1 _ (qi (show i<h.nR.length by omega))))).symm.trans rfl)
   have er3:∀q:nx,bT (nth o.nN i) 0 (nx.enc q)=nx.enc q:=fun q=>by rw[g3];exact qL ((congrArg List.length (nx.eta (hw2 _ (qi (show i<h.nN.length by omega))))).symm.trans rfl)
   have er4:∀v w:nx,bT (nx.enc v) 0 (nx.enc w)=nx.enc w:=fun _ _=>rfl
   have dv:∀v:nx,nx.nd (nx.enc v) 0=v:=fun _=>rfl
   have hb:∃b,nth o.nT i=[DC.bool b]:=⟨rB (nth h.nT i) 0,by rw[g4];exact (nqP (hw3 _ (qi (show i<h.nT.length by omega)))).symm⟩
   obtain⟨bp,hb⟩:=hb
   have nwy:List.set o.nT i [DC.bool bp]=o.nT:=by rw[←hb];exact njP hi5
   have w1:nS ((i:Int)+1)=(i:Int)+1:=nP (by omega) (by omega)
   have hq:qk h.Maps (⟨o.n_.nL⟩:nc) 0 (nr.nd (nth o.Rx i) 0) (nj.nd (nth o.nR i) 0) o.oE budget=hsQ o i budget:=by rw[←f1];rfl
   have hpq:ngu h.Maps (⟨o.n_.nL⟩:nc) 0 (nr.nd (nth o.Rx i) 0) (nj.nd (nth o.nR i) 0) o.oE budget=true:=by
    have:=hph [] []
    simp only[nmn,Bool.and_eq_true,Int.toNat_natCast,f1] at this
    exact this.2
   simp only[wB,pw hi,nY GI,qC GI,nY hi3,qC hi3,nY hi4,qC hi4,nY hi5,qC hi5,RS,O_,Int.toNat_natCast,Nat.beq_refl,Bool.and_self,er1,er2,er3,w1,hb,Rm,yK,ng,nn,cond_true,T_,hsV,hpq,hq]
   cases hT:(sq (nx.nd (nth o.nN i) 0)).2<;>cases bp<;>simp only[nwy,Nk hi5,Nk hi4,List.set_set,nY hi5,qC hi5,RS,O_,yK,nn,nu9,Rm,er4,dv,hb,hpq,hq,Bool.not_true,Bool.not_false,cond_true,cond_false,ng]
   all_goals first
    | rfl
    | (cases decide ((hsQ o i budget).2.2.2.2<budget)<;>rfl)
  ·rintro n ⟨o,t⟩ ho
   have m1:=ho.1
   show sg ke k_ (h.Rx.length+1) budget h.Maps h.Rx h.Tx.Ring.oA h.Tx.Ring.nG h.Tx.Ring.Head h.Tx.Ring.qQ h.Tx.n9.oA h.Tx.n9.nG h.Tx.n9.Count h.Tx.Next h.Filter.Wj h.Filter.oH h.nk.oa.Key h.p9 h.Counters.Frames h.Counters.Bad h.Counters.pX h.Counters.qz h.Counters.tz h.Maps h.Tx.n9.oe h.Tx.nD h.Filter.pE h.nk.oM h.nk.Table.nH h.nk.oa.Table h.tU h.oG h.oU (n+1) t (h.Rx.length:Int) o.n_.nL o.Rx o.nR o.nN o.nT o.oE=_
   rw[PW]
   simp only[wB,nX,cond_false]
   exact congrArg (fun x=>k_ x t) m1.symm
 exact key
theorem ntP {a:Rows} {left:Int} (wT:G9 (.sl [.int .i64,.int .i64,.int .i64,.sl [.int .i64]]) (.sl a)) (h1:0≤left) (h2:left≤1048576) (h0:0≤pW a left):∀r∈a,(rR r 3).length≤1048576:=by
 obtain⟨hl,hw⟩:=oJ wT
 refine (V7 (f:=fun r l=>qN (nj.nd r 0) l) (P:=fun r=>(rR r 3).length≤1048576) (fun r hr l hl0 GL h=> ?_) h1 h2 hl h0).2.2
 have hwr:kc nj.ct (nj.nd r 0).enc:=by rw[nj.eta (hw r hr)];exact hw r hr
 refine⟨(Pg hwr hl0 GL h).1, ?_⟩
 have h':=h
 simp only[qN,Nd,id] at h'
 by_cases hn:oI (nj.nd r 0).oe l<0
 ·rw[decide_eq_true hn] at h'
  simp at h'
 ·exact nvb (a:=(nj.nd r 0).oe) hl0 GL (oJ (nj.nj_ hwr)).1 (Int.not_lt.1 hn)
theorem nrw {a:Rows} {left:Int} (wT:G9 (.sl [.int .i64,.int .i64,.int .i64,.int .i64,.int .i64,.int .i64,.str,.bool]) (.sl a)) (h1:0≤left) (h2:left≤1048576) (h0:0≤rk a left):∀r∈a,(rS r 6).length≤1048576:=by
 obtain⟨hl,hw⟩:=oJ wT
 refine (V7 (f:=fun r l=>rZ (nJ.nd r 0) l) (P:=fun r=>(rS r 6).length≤1048576) (fun r hr l hl0 GL h=> ?_) h1 h2 hl h0).2.2
 have hwr:kc nJ.ct (nJ.nd r 0).enc:=by rw[nJ.eta (hw r hr)];exact hw r hr
 refine⟨(Zl hwr hl0 GL h).1, ?_⟩
 have h':=h
 simp only[rZ,NF,id] at h'
 by_cases hn:nS (l - len (nJ.nd r 0).Data)<0
 ·rw[decide_eq_true hn] at h'
  simp at h'
 ·exact (nrx (a:=(nJ.nd r 0).Data) (yR (nJ.nvz hwr)) hl0 GL (Int.not_lt.1 hn)).2
theorem nvH {a:nt} {left:Int} (wT:kc nt.ct a.enc) (h1:0≤left) (h2:left≤1048576) (h0:0≤tZ a left):Z2 a=true:=by
 simp only[tZ,Nb,id] at h0
 by_cases c0:oF a.n_ left<0
 ·simp only[c0,decide_true,cond_true] at h0;omega
 simp only[c0,decide_false,cond_false] at h0
 have k0:=Qz (nt.nl9 wT) h1 h2 (Int.not_lt.1 c0)
 by_cases c1:oI a.Maps (oF a.n_ left)<0
 ·simp only[c1,decide_true,cond_true] at h0;omega
 simp only[c1,decide_false,cond_false] at h0
 have k1:=tK (Int.not_lt.1 c0) k0.1 (oJ (nt.ntW wT)).1 (Int.not_lt.1 c1)
 by_cases c2:oL a.Tx (oI a.Maps (oF a.n_ left))<0
 ·simp only[c2,decide_true,cond_true] at h0;omega
 simp only[c2,decide_false,cond_false] at h0
 have k2:=W9 (nt.nwP wT) (Int.not_lt.1 c1) k1.1 (Int.not_lt.1 c2)
 by_cases c3:oW a.Rx (oL a.Tx (oI a.Maps (oF a.n_ left)))<0
 ·simp only[c3,decide_true,cond_true] at h0;omega
 simp only[c3,decide_false,cond_false] at h0
 have k3:=Vl (nt.nuy wT) (Int.not_lt.1 c2) k2.1 (Int.not_lt.1 c3)
 by_cases c4:pW a.nR (oW a.Rx (oL a.Tx (oI a.Maps (oF a.n_ left))))<0
 ·simp only[c4,decide_true,cond_true] at h0;omega
 simp only[c4,decide_false,cond_false] at h0
 have k4:=nbE (nt.Sg wT) (Int.not_lt.1 c3) k3.1 (Int.not_lt.1 c4)
 have n1:=ntP (nt.Sg wT) (Int.not_lt.1 c3) k3.1 (Int.not_lt.1 c4)
 by_cases c5:oI a.nN (pW a.nR (oW a.Rx (oL a.Tx (oI a.Maps (oF a.n_ left)))))<0
 ·simp only[c5,decide_true,cond_true] at h0;omega
 simp only[c5,decide_false,cond_false] at h0
 have k5:=tK (Int.not_lt.1 c4) k4.1 (oJ (nt.nag wT)).1 (Int.not_lt.1 c5)
 by_cases c6:oI a.nT (oI a.nN (pW a.nR (oW a.Rx (oL a.Tx (oI a.Maps (oF a.n_ left))))))<0
 ·simp only[c6,decide_true,cond_true] at h0;omega
 simp only[c6,decide_false,cond_false] at h0
 have k6:=tK (Int.not_lt.1 c5) k5.1 (oJ (nt.nae wT)).1 (Int.not_lt.1 c6)
 by_cases c7:qR a.Filter (oI a.nT (oI a.nN (pW a.nR (oW a.Rx (oL a.Tx (oI a.Maps (oF a.n_ left)))))))<0
 ·simp only[c7,decide_true,cond_true] at h0;omega
 simp only[c7,decide_false,cond_false] at h0
 have k7:=Ze (nt.ns4 wT) (Int.not_lt.1 c6) k6.1 (Int.not_lt.1 c7)
 by_cases c8:qM a.nk (qR a.Filter (oI a.nT (oI a.nN (pW a.nR (oW a.Rx (oL a.Tx (oI a.Maps (oF a.n_ left))))))))<0
 ·simp only[c8,decide_true,cond_true] at h0;omega
 simp only[c8,decide_false,cond_false] at h0
 have k8:=Vp (nt.nmx wT) (Int.not_lt.1 c7) k7.1 (Int.not_lt.1 c8)
 by_cases c9:rk a.oE (qM a.nk (qR a.Filter (oI a.nT (oI a.nN (pW a.nR (oW a.Rx (oL a.Tx (oI a.Maps (oF a.n_ left)))))))))<0
 ·simp only[c9,decide_true,cond_true] at h0;omega
 simp only[c9,decide_false,cond_false] at h0
 have k9:=W7 (nt.naf wT) (Int.not_lt.1 c8) k8.1 (Int.not_lt.1 c9)
 have n2:=nrw (nt.naf wT) (Int.not_lt.1 c8) k8.1 (Int.not_lt.1 c9)
 have n3:=nvO (Int.not_lt.1 c8) k8.1 (oJ (nt.naf wT)).1 (Int.not_lt.1 c9)
 simp only[Z2,Bool.and_eq_true,List.all_eq_true,decide_eq_true_eq]
 exact⟨fun r hr=>Nat.le_trans (n1 r hr) (by omega),Nat.le_trans n3 (by omega),fun r hr=>Nat.le_trans (n2 r hr) (by omega)⟩
def zL (k_:Bool→α) (aH:nt) (rP:Int):α:=
 let z0:Bool:=Ei (Ei true (sX aH)) (sQ (oD aH) rP)
 let z1:Bool:= !(pF ((o_ (oD aH) rP).1) ((o_ (oD aH) rP).1))
 let z2:Bool:=Ei true (same ((o_ (oD aH) rP).1) ((o_ (oD aH) rP).1))
 let z3:Bool:=L1 z1 z2 z2
 let z4:Bool:=bif z1 then true else ((o_ (oD aH) rP).2) != ((o_ (oD aH) rP).2)
 let z5:Bool:=decide ((pQ (oD aH) 1).1<0)
 let z6:Int×Rows×Rows×Rows×Rows×Rows×Rows×Rows×Rows×Rows×Rows×Rows×Rows×Rows×Rows×Rows×Rows:=pQ ((o_ (oD aH) rP).1) 1
 let z7:nt:=(⟨(⟨z6.2.1⟩:nc),z6.2.2.1,(⟨(((o_ (oD aH) rP).1).Tx).Ring,(⟨((((o_ (oD aH) rP).1).Tx).n9).oA,((((o_ (oD aH) rP).1).Tx).n9).nG,((((o_ (oD aH) rP).1).Tx).n9).Count,z6.2.2.2.1⟩:nj),z6.2.2.2.2.1,(((o_ (oD aH) rP).1).Tx).Next⟩:nv),z6.2.2.2.2.2.1,z6.2.2.2.2.2.2.1,z6.2.2.2.2.2.2.2.1,z6.2.2.2.2.2.2.2.2.1,(⟨(((o_ (oD aH) rP).1).Filter).Wj,(((o_ (oD aH) rP).1).Filter).oH,z6.2.2.2.2.2.2.2.2.2.1⟩:nF),(⟨z6.2.2.2.2.2.2.2.2.2.2.1,(⟨z6.2.2.2.2.2.2.2.2.2.2.2.1⟩:ni),(⟨((((o_ (oD aH) rP).1).nk).oa).Key,z6.2.2.2.2.2.2.2.2.2.2.2.2.1⟩:nI)⟩:nm),z6.2.2.2.2.2.2.2.2.2.2.2.2.2.1,((o_ (oD aH) rP).1).p9,z6.2.2.2.2.2.2.2.2.2.2.2.2.2.2.1,z6.2.2.2.2.2.2.2.2.2.2.2.2.2.2.2.1,z6.2.2.2.2.2.2.2.2.2.2.2.2.2.2.2.2,((o_ (oD aH) rP).1).Counters⟩:nt)
 let z8:Bool:=Ei true (Oq z7 1)
 let z9:Int:=X8 z7 1
 let TR:Bool:=decide (z9<0)
 let z11:Bool:=z9 != z6.1
 bif decide (tZ aH 1048576<0) then k_ true
 else bif z0 then
   bif Ei true (sX aH) then
    bif Ei true (sQ (oD aH) rP) then
     bif z3 then
      bif z4 then k_ false
      else bif Ei (Ei true (sX aH)) (same (oD aH) (oD aH)) then
        bif !(pF (oD aH) (oD aH)) then k_ false
        else bif Ei true (yH (oD aH) 1) then
          bif L1 z5 true z3 then
           bif bif z5 then true else z4 then k_ false
           else bif Ei true (yH ((o_ (oD aH) rP).1) 1) then
             bif z8 then
              bif TR then k_ false
              else bif z11 then k_ false
              else bif z0 then
                bif z3 then
                 bif z4 then k_ false
                 else bif z8 then
                   bif TR then k_ false
                   else bif z11 then k_ false
                   else k_ true
                  else ke
                else ke
               else ke
             else ke
            else ke
          else ke
         else ke
       else ke
     else ke
    else ke
   else ke
  else ke
theorem Wc (k_:Bool→α) (aH:nt) (rP:Int) (nwx:kc nt.ct aH.enc) (nsT:G9 .i (.int rP)) (aJ:Wb (nt.ct++(.i::([]))) (aH.enc++(.int rP::([])))=true):zL ke k_ aH rP=k_ true:=by
 unfold zL
 by_cases c0:tZ aH 1048576<0
 ·simp only[c0,decide_true,decide_false,cond_true,cond_false]
 have k0:=nqc nwx (by omega) (by omega) (Int.not_lt.1 c0)
 have hs:=nvP k0.2
 have hb:=nvG nwx (by omega) (by omega) (Int.not_lt.1 c0)
 have hp:=nvH nwx (by omega) (by omega) (Int.not_lt.1 c0)
 have ht:sQ aH rP=true:=by simp only[sQ,hs,hb,hp,Bool.and_self]
 have hs2:vq (o_ aH rP).1=true:=no4 hs hp
 obtain⟨K,P0,P1,P2,P3,P4,P5,P6,P7,P8,P9,P10,P11,P12,P13,P14,P15,mh0,mh1,mh2,_,_⟩:=nvo hs
 obtain⟨J,Q0,Q1,Q2,Q3,Q4,Q5,Q6,Q7,Q8,Q9,Q10,Q11,Q12,Q13,Q14,Q15,nh0,nh1,nh2,nh3,nh4⟩:=nvo hs2
 have mh3:¬K<0:=by omega
 have nh5:¬J<0:=by omega
 simp only[c0,decide_false,cond_false,cond_true,oD,k0.2,ht,mh0,mh1,mh3,nh0,nh1,nh3,nh4,nh5,ng,nn,pV,pF,beq_self_eq_true,bne_self_eq_false,Bool.not_true,yK]
end
end Go.Proofs.YtnlkklmcfafgeaaGreat.Pl
