/- Plain forms. Conditions: as each says. -/
import Derived.Test.YtoaflbnkiobhdaaGreatP0
import Derived.Test.YtoaflbnkiobhdaaGreatBit
import Derived.Test.YtoaflbnkiobhdaaGreatDp
set_option linter.unusedVariables false
set_option linter.unusedSimpArgs false
set_option maxRecDepth 100000
namespace Go.Proofs.YtoaflbnkiobhdaaGreat.Pl
open Vm
noncomputable section
variable {α:Type} (kd:α)
structure yM where
 Tos:Int
 Id:Int
 Ttl:Int
 ntl:Int
 Src:Int
 Dst:Int
 Body:Bytes
def yM.enc (x:yM):List DC:=[.int x.Tos,.int x.Id,.int x.Ttl,.int x.ntl,.int x.Src,.int x.Dst,.str x.Body]
def yM.nd (r:List DC) (o:Nat):yM:=⟨rI r (o+0),rI r (o+1),rI r (o+2),rI r (o+3),rI r (o+4),rI r (o+5),rS r (o+6)⟩
def yM.ct:List CT:=[.i,.i,.i,.i,.i,.i,.str]
theorem yM.eta {r:List DC} (h:ka yM.ct r):(yM.nd r 0).enc=r:=(show (yM.nd r 0).enc=tq yM.ct r 0 from by kernel_rfl).trans (rC h)
theorem yM.nz {r:List CT} {ds:List DC} (h:ka (yM.ct++r) ds):∃(x:yM) (aX:List DC),ds=x.enc++aX∧ka yM.ct x.enc∧ka r aX:=by
 obtain⟨d1,d2,rfl,h1,h2⟩:=qW h
 exact⟨yM.nd d1 0,d2,by rw[yM.eta h1],by rw[yM.eta h1];exact h1,h2⟩
theorem yM.nxd {x:yM} (h:ka yM.ct x.enc):G3 .i (.int x.Tos):=oh 0 h rfl rfl
theorem yM.nxm {x:yM} (h:ka yM.ct x.enc):G3 .i (.int x.Id):=oh 1 h rfl rfl
theorem yM.nxe {x:yM} (h:ka yM.ct x.enc):G3 .i (.int x.Ttl):=oh 2 h rfl rfl
theorem yM.nxc {x:yM} (h:ka yM.ct x.enc):G3 .i (.int x.Src):=oh 4 h rfl rfl
theorem yM.nw9 {x:yM} (h:ka yM.ct x.enc):G3 .i (.int x.Dst):=oh 5 h rfl rfl
theorem yM.nul {x:yM} (h:ka yM.ct x.enc):G3 .str (.str x.Body):=oh 6 h rfl rfl
structure tV where
 Dst:Int
 Src:Int
 vt:Int
 VU:Int
 Body:Bytes
def tV.enc (x:tV):List DC:=[.int x.Dst,.int x.Src,.int x.vt,.int x.VU,.str x.Body]
def tV.nd (r:List DC) (o:Nat):tV:=⟨rI r (o+0),rI r (o+1),rI r (o+2),rI r (o+3),rS r (o+4)⟩
def tV.ct:List CT:=[.i,.i,.i,.i,.str]
theorem tV.eta {r:List DC} (h:ka tV.ct r):(tV.nd r 0).enc=r:=(show (tV.nd r 0).enc=tq tV.ct r 0 from by kernel_rfl).trans (rC h)
theorem tV.nz {r:List CT} {ds:List DC} (h:ka (tV.ct++r) ds):∃(x:tV) (aX:List DC),ds=x.enc++aX∧ka tV.ct x.enc∧ka r aX:=by
 obtain⟨d1,d2,rfl,h1,h2⟩:=qW h
 exact⟨tV.nd d1 0,d2,by rw[tV.eta h1],by rw[tV.eta h1];exact h1,h2⟩
theorem tV.nw9 {x:tV} (h:ka tV.ct x.enc):G3 .i (.int x.Dst):=oh 0 h rfl rfl
theorem tV.nxc {x:tV} (h:ka tV.ct x.enc):G3 .i (.int x.Src):=oh 1 h rfl rfl
theorem tV.nvG {x:tV} (h:ka tV.ct x.enc):G3 .i (.int x.vt):=oh 2 h rfl rfl
theorem tV.nul {x:tV} (h:ka tV.ct x.enc):G3 .str (.str x.Body):=oh 4 h rfl rfl
def Rv {α:Type} (k_:Bytes→α) (v:Int):α:=
 bif !(nj v 0 65535) then k_ []
 else k_ (toStr ([[.int (IntKind.wrap .u8 (VS .i64 v 8))],[.int (IntKind.wrap .u8 v)]]))
def nW (v:Int):Bytes:=Rv id v
theorem nfP {α:Type} (k_:Bytes→α) (v:Int):Rv k_ v=k_ (nW v):=by
 exact J5 rfl rfl
theorem qR (v:Int):(pQ v).length≤4:=by
 unfold pQ Rw
 cases !(nj v 0 4294967295)<;>simp [toStr]
theorem ou (v:Int):(nW v).length≤2:=by
 unfold nW Rv
 cases !(nj v 0 65535)<;>simp [toStr]
theorem Xm {a b:Bytes} (h:a.length+b.length≤9223372036854775807):oC a b=true:=decide_eq_true h
theorem rl (r:Rows):(toStr r).length=r.length:=by simp [toStr]
def ss (s:Bytes):Bool:=decide (s.length≤4294967296)
theorem nvz {q:nF} (h:tJ q=true):q.Body.length≤320:=by
 unfold tJ wR at h
 by_cases h3:320<len q.Body
 ·rw[decide_eq_true h3] at h
  revert h
  cases !(nj q.ph 0 65535)<;>cases !(nj q.pg 0 65535)<;>simp
 ·simp only[len] at h3
  omega
def ncL {α:Type} (k_:Int→α) (a b:Int):α:=
 bif bif !(nj a 0 65535) then true else !(nj b 0 65535) then k_ (-1)
 else bif decide (65535<nS (a+b)) then k_ (nS ((nS (a+b)) - 65535))
 else k_ (nS (a+b))
def nih (a b:Int):Int:=ncL id a b
theorem ncK {α:Type} (k_:Int→α) (a b:Int):ncL k_ a b=k_ (nih a b):=by
 exact J5 rfl (J5 rfl rfl)
def zy (k_:Int→α) (s:Bytes) (oL:Int→Int→α) (sum i:Int):α:=
 let z0:Bool:=decide (nS (i+1)<len s)
 let z1:Int:=nfz .i64 (nS (y9 s i)) 8
 bif decide (i<len s) then
  bif Ec true (idx i s) then
   bif LV z0 (Ec true (idx (nS (i+1)) s)) true then
    oL (nih sum (bif z0 then bits .or .i64 z1 (nS (y9 s (nS (i+1)))) else z1)) (nS (i+2))
   else kd
  else kd
 else k_ sum
def zx (k_:Int→α) (N:Nat) (s:Bytes) (m_:Nat):Int→Int→α:=
 Nat.rec (motive:=fun _=>Int→Int→α) (fun _ _=>kd) (fun _ oL=>zy kd k_ s oL) m_
theorem Ua (k_:Int→α) (N:Nat) (s:Bytes) (m_:Nat):zx kd k_ N s (m_+1)=zy kd k_ s (zx kd k_ N s m_):=rfl
def Sl {α:Type} (kd:α) (k_:Int→α) (l0:Int→Int→α) (s:Bytes):α:=
 l0 0 0
def na5 (k_:Int→α) (N:Nat) (s:Bytes):α:=Sl kd k_ (zx kd k_ N s N) s
def swW (s:Bytes) (i:Nat):Int:=y9 s (i:Int)*256+(bif decide (((i:Int)+1)<len s) then y9 s ((i:Int)+1) else 0)
def swF (s:Bytes) (j:Nat) (c:Int):Int:=nih c (swW s (2*j))
def ntm (s:Bytes):Int:=itN (swF s) ((s.length+1) / 2) 0 0
def XZ (s:Bytes):Int:=shut ntm s
theorem nmX (s:Bytes):XZ s=itN (swF s) ((s.length+1) / 2) 0 0:=congrFun (nwG ntm) s
theorem nnB (k_:Int→α) (s:Bytes) (Nr:G3 .str (.str s)) (aJ:ss s=true):∃N,na5 kd k_ N s=k_ (XZ s):=by
 have hl:=zf Nr
 refine⟨s.length+1, ?_⟩
 have HH:s.length≤4294967296:=of_decide_eq_true aJ
 rw[nmX]
 unfold na5 Sl
 have key:∀(m n j:Nat) (c:Int),j+m=(s.length+1) / 2→m<n→zx kd k_ (s.length+1) s n c ((2*j:Nat):Int)=k_ (itN (swF s) m j c):=by
  intro m
  induction m with
  | zero=>
   intro n j c h1 h2
   obtain⟨n,rfl⟩:∃q,n=q+1:=⟨n - 1,by omega⟩
   have hf:decide (((2*j:Nat):Int)<len s)=false:=decide_eq_false (by simp only[len];omega)
   rw[Ua]
   simp only[zy,hf,cond_false,itN]
  | succ m ih=>
   intro n j c h1 h2
   obtain⟨n,rfl⟩:∃q,n=q+1:=⟨n - 1,by omega⟩
   have cm:2*j<s.length:=by omega
   have hw1:nS (((2*j:Nat):Int)+1)=((2*j:Nat):Int)+1:=nJ (by omega) (by omega)
   have hw2:nS (((2*j:Nat):Int)+2)=((2*(j+1):Nat):Int):=by rw[nJ (by omega) (by omega)];omega
   have aJ:LV (decide (((2*j:Nat):Int)+1<len s)) (idx (((2*j:Nat):Int)+1) s) true=true:=nd1 (fun h=>by
    have h:=of_decide_eq_true h
    simp only[len] at h
    simp only[idx,Bool.and_eq_true,decide_eq_true_eq]
    omega) (fun _=>rfl)
   have b0:=x_ s ((2*j:Nat):Int)
   have c0:=x9 s ((2*j:Nat):Int)
   have b1:=x_ s (((2*j:Nat):Int)+1)
   have c1:=x9 s (((2*j:Nat):Int)+1)
   have e0:nfz .i64 (y9 s ((2*j:Nat):Int)) 8=y9 s ((2*j:Nat):Int)*256:=by rw[nwm,nJ (by omega) (by omega)]
   have hv:(bif decide (((2*j:Nat):Int)+1<len s) then bits .or .i64 (y9 s ((2*j:Nat):Int)*256) (y9 s (((2*j:Nat):Int)+1)) else y9 s ((2*j:Nat):Int)*256)=swW s (2*j):=by
    unfold swW
    cases decide (((2*j:Nat):Int)+1<len s)
    ·simp
    ·simp only[cond_true]
     rw[ne1 8 (y:=y9 s (((2*j:Nat):Int)+1)) (by omega) (by omega) (by omega) (by omega) (by omega) (by omega)]
   rw[Ua]
   simp only[zy,pL cm,n9 cm,hw1,hw2,aJ,ng,cond_true,nJ (n:=y9 s ((2*j:Nat):Int)) (by omega) (by omega),nJ (n:=y9 s (((2*j:Nat):Int)+1)) (by omega) (by omega),e0,hv]
   exact ih n (j+1) _ (by omega) (by omega)
 exact key ((s.length+1) / 2) (s.length+1) 0 0 (by omega) (by omega)
def Ng (k_:Int→α) (s:Bytes) (oL:Int→Int→α) (sum i:Int):α:=
 let z0:Bool:=decide (nS (i+1)<len s)
 let z1:Int:=nfz .i64 (nS (y9 s i)) 8
 bif decide (i<len s) then
  bif Ec true (idx i s) then
   bif LV z0 (Ec true (idx (nS (i+1)) s)) true then
    oL (nih sum (bif z0 then nS (z1+(nS (y9 s (nS (i+1))))) else z1)) (nS (i+2))
   else kd
  else kd
 else k_ sum
def Nf (k_:Int→α) (N:Nat) (s:Bytes) (m_:Nat):Int→Int→α:=
 Nat.rec (motive:=fun _=>Int→Int→α) (fun _ _=>kd) (fun _ oL=>Ng kd k_ s oL) m_
theorem Vx (k_:Int→α) (N:Nat) (s:Bytes) (m_:Nat):Nf kd k_ N s (m_+1)=Ng kd k_ s (Nf kd k_ N s m_):=rfl
def SJ {α:Type} (kd:α) (k_:Int→α) (l0:Int→Int→α) (s:Bytes):α:=
 l0 0 0
def ncq (k_:Int→α) (N:Nat) (s:Bytes):α:=SJ kd k_ (Nf kd k_ N s N) s
theorem npo (k_:Int→α) (s:Bytes) (Nr:G3 .str (.str s)) (aJ:ss s=true):∃N,ncq kd k_ N s=k_ (XZ s):=by
 have hl:=zf Nr
 refine⟨s.length+1, ?_⟩
 have HH:s.length≤4294967296:=of_decide_eq_true aJ
 rw[nmX]
 unfold ncq SJ
 have key:∀(m n j:Nat) (c:Int),j+m=(s.length+1) / 2→m<n→Nf kd k_ (s.length+1) s n c ((2*j:Nat):Int)=k_ (itN (swF s) m j c):=by
  intro m
  induction m with
  | zero=>
   intro n j c h1 h2
   obtain⟨n,rfl⟩:∃q,n=q+1:=⟨n - 1,by omega⟩
   have hf:decide (((2*j:Nat):Int)<len s)=false:=decide_eq_false (by simp only[len];omega)
   rw[Vx]
   simp only[Ng,hf,cond_false,itN]
  | succ m ih=>
   intro n j c h1 h2
   obtain⟨n,rfl⟩:∃q,n=q+1:=⟨n - 1,by omega⟩
   have cm:2*j<s.length:=by omega
   have hw1:nS (((2*j:Nat):Int)+1)=((2*j:Nat):Int)+1:=nJ (by omega) (by omega)
   have hw2:nS (((2*j:Nat):Int)+2)=((2*(j+1):Nat):Int):=by rw[nJ (by omega) (by omega)];omega
   have aJ:LV (decide (((2*j:Nat):Int)+1<len s)) (idx (((2*j:Nat):Int)+1) s) true=true:=nd1 (fun h=>by
    have h:=of_decide_eq_true h
    simp only[len] at h
    simp only[idx,Bool.and_eq_true,decide_eq_true_eq]
    omega) (fun _=>rfl)
   have b0:=x_ s ((2*j:Nat):Int)
   have c0:=x9 s ((2*j:Nat):Int)
   have b1:=x_ s (((2*j:Nat):Int)+1)
   have c1:=x9 s (((2*j:Nat):Int)+1)
   have e0:nfz .i64 (y9 s ((2*j:Nat):Int)) 8=y9 s ((2*j:Nat):Int)*256:=by rw[nwm,nJ (by omega) (by omega)]
   have hv:(bif decide (((2*j:Nat):Int)+1<len s) then nS (y9 s ((2*j:Nat):Int)*256+y9 s (((2*j:Nat):Int)+1)) else y9 s ((2*j:Nat):Int)*256)=swW s (2*j):=by
    unfold swW
    cases decide (((2*j:Nat):Int)+1<len s)
    ·simp
    ·simp only[cond_true]
     rw[nJ (by omega) (by omega)]
   rw[Vx]
   simp only[Ng,pL cm,n9 cm,hw1,hw2,aJ,ng,cond_true,nJ (n:=y9 s ((2*j:Nat):Int)) (by omega) (by omega),nJ (n:=y9 s (((2*j:Nat):Int)+1)) (by omega) (by omega),e0,hv]
   exact ih n (j+1) _ (by omega) (by omega)
 exact key ((s.length+1) / 2) (s.length+1) 0 0 (by omega) (by omega)
def naz (k_:Int→α) (s:Bytes):α:=
 bif Ec true (ss s) then
  k_ (nS (65535 - (XZ s)))
 else kd
def O1 (s:Bytes):Int:=nS (65535 - XZ s)
theorem nax (k_:Int→α) (s:Bytes) (aJ:ss s=true):naz kd k_ s=k_ (O1 s):=by
 have h:ss s=true:=aJ
 unfold naz O1
 simp only[h,ng,cond_true]
def naS (k_:Bytes→α) (s:Bytes) (at_:Int) (part:Bytes):α:=
 let z0:Bytes:=ncD s (nS (at_+(len part)))
 bif bif decide (at_<0) then true else decide (nS ((len s) - (len part))<at_) then k_ s
 else bif Ec (Ec (Ec (Ec true (okH s at_)) (oC (nap s at_) part)) (okL s (nS (at_+(len part))))) (oC ((nap s at_)++part) z0) then
   k_ (((nap s at_)++part)++z0)
  else kd
def rA (s:Bytes) (at_:Int) (part:Bytes):Bool:=decide (s.length≤4294967296) && decide (part.length≤4294967296)
def u0 (s:Bytes) (at_:Int) (part:Bytes):Bytes:=bif !(rE s at_ (len part)) then s else s.take at_.toNat++part++s.drop (at_.toNat+part.length)
theorem npP {s:Bytes} {at_:Int} {part:Bytes} (hs:s.length≤9223372036854775807):(u0 s at_ part).length=s.length:=by
 unfold u0
 cases hw:rE s at_ (len part)
 ·rfl
 ·have:=(within_iff hs).1 hw
  simp only[len] at this
  simp only[Bool.not_true,cond_false,List.length_append,List.length_take,List.length_drop]
  omega
theorem nnv (k_:Bytes→α) (s:Bytes) (at_:Int) (part:Bytes) (aJ:rA s at_ part=true):naS kd k_ s at_ part=k_ (u0 s at_ part):=by
 simp only[rA,Bool.and_eq_true,decide_eq_true_eq] at aJ
 unfold naS u0
 have nw1:(bif decide (at_<0) then true else decide (nS (len s - len part)<at_))= !(rE s at_ (len part)):=by
  have h1:=within_iff (s:=s) (at_:=at_) (n:=len part) (by omega)
  rw[nJ (n:=len s - len part) (by simp only[len];omega) (by simp only[len];omega)]
  cases hw:rE s at_ (len part)
  ·by_cases h0:at_<0
   ·simp [h0]
   ·by_cases h2:len s - len part<at_
    ·simp [h0,h2]
    ·rw[h1.2 (by simp only[len] at h2 ⊢;omega)] at hw
     cases hw
  ·have:=h1.1 hw
   simp [show ¬at_<0 by omega,show ¬len s - len part<at_ by omega]
 rw[nw1]
 refine qP (fun _=>rfl) (fun hg=> ?_)
 have hw:=(within_iff (by omega)).1 (show rE s at_ (len part)=true by simpa using hg)
 have e1:nS (at_+len part)=at_+len part:=by simp only[len] at hw ⊢;exact nJ (by omega) (by omega)
 have e2:nap s at_=s.take at_.toNat:=by simp [nap]
 have e3:ncD s (at_+len part)=s.drop (at_.toNat+part.length):=by
  simp only[ncD,List.take_length,len]
  congr 1
  omega
 have g1:okH s at_=true:=by simp only[len] at hw;simp only[okH,Bool.and_eq_true,decide_eq_true_eq];omega
 have g2:okL s (at_+len part)=true:=by simp only[len] at hw ⊢;simp only[okL,Bool.and_eq_true,decide_eq_true_eq];omega
 have g3:oC (s.take at_.toNat) part=true:=by simp only[oC,List.length_take,decide_eq_true_eq];omega
 have g4:oC (s.take at_.toNat++part) (s.drop (at_.toNat+part.length))=true:=by simp only[oC,List.length_append,List.length_take,List.length_drop,decide_eq_true_eq];omega
 simp only[e1,e2,e3,g1,g2,g3,g4,ng,cond_true]
def ncg (k_:Bytes→α) (s:Bytes) (at_:Int) (part:Bytes):α:=
 let z0:Bytes:=ncD s (nS (at_+(len part)))
 bif !(rE s at_ (len part)) then k_ s
 else bif Ec (Ec (Ec (Ec true (okH s at_)) (oC (nap s at_) part)) (okL s (nS (at_+(len part))))) (oC ((nap s at_)++part) z0) then
   k_ (((nap s at_)++part)++z0)
  else kd
theorem nph (k_:Bytes→α) (s:Bytes) (at_:Int) (part:Bytes) (aJ:rA s at_ part=true):ncg kd k_ s at_ part=k_ (u0 s at_ part):=by
 simp only[rA,Bool.and_eq_true,decide_eq_true_eq] at aJ
 unfold ncg u0
 refine qP (fun _=>rfl) (fun hg=> ?_)
 have hw:=(within_iff (by omega)).1 (show rE s at_ (len part)=true by simpa using hg)
 have e1:nS (at_+len part)=at_+len part:=by simp only[len] at hw ⊢;exact nJ (by omega) (by omega)
 have e2:nap s at_=s.take at_.toNat:=by simp [nap]
 have e3:ncD s (at_+len part)=s.drop (at_.toNat+part.length):=by
  simp only[ncD,List.take_length,len]
  congr 1
  omega
 have g1:okH s at_=true:=by simp only[len] at hw;simp only[okH,Bool.and_eq_true,decide_eq_true_eq];omega
 have g2:okL s (at_+len part)=true:=by simp only[len] at hw ⊢;simp only[okL,Bool.and_eq_true,decide_eq_true_eq];omega
 have g3:oC (s.take at_.toNat) part=true:=by simp only[oC,List.length_take,decide_eq_true_eq];omega
 have g4:oC (s.take at_.toNat++part) (s.drop (at_.toNat+part.length))=true:=by simp only[oC,List.length_append,List.length_take,List.length_drop,decide_eq_true_eq];omega
 simp only[e1,e2,e3,g1,g2,g3,g4,ng,cond_true]
def SZ (k_:Bytes→Bool→α) (src dst kind length:Int):α:=
 let z0:Bytes:=((pQ src)++(pQ dst))++(toStr ([[.int 0],[.int (IntKind.wrap .u8 kind)]]))
 bif bif !(nj src 0 4294967295) then true else bif !(nj dst 0 4294967295) then true else bif !(nj kind 0 255) then true else !(nj length 0 65535) then k_ [] false
 else bif Ec (Ec (Ec true (oC (pQ src) (pQ dst))) (oC ((pQ src)++(pQ dst)) (toStr ([[.int 0],[.int (IntKind.wrap .u8 kind)]])))) (oC z0 (nW length)) then
   k_ (z0++(nW length)) true
  else kd
def rp (src dst kind length:Int):Bytes×Bool:=
 bif bif !(nj src 0 4294967295) then true else bif !(nj dst 0 4294967295) then true else bif !(nj kind 0 255) then true else !(nj length 0 65535) then ([],false)
 else (pQ src++pQ dst++toStr ([[.int 0],[.int (IntKind.wrap .u8 kind)]])++nW length,true)
theorem XY (src dst kind length:Int):(rp src dst kind length).1.length≤12:=by
 have a:=qR src
 have b:=qR dst
 have c:=ou length
 unfold rp
 cases (bif !(nj src 0 4294967295) then true else bif !(nj dst 0 4294967295) then true else bif !(nj kind 0 255) then true else !(nj length 0 65535))
 ·simp only[cond_false,List.length_append,rl,List.length_cons,List.length_nil]
  omega
 ·exact Nat.zero_le _
theorem SY (k_:Bytes→Bool→α) (src dst kind length:Int):SZ kd k_ src dst kind length=k_ (rp src dst kind length).1 (rp src dst kind length).2:=by
 have a:=qR src
 have b:=qR dst
 have c:=ou length
 have g1:oC (pQ src) (pQ dst)=true:=Xm (by omega)
 have g2:∀r,oC (pQ src++pQ dst) (toStr [[.int 0],r])=true:=fun r=>Xm (by simp only[List.length_append,rl,List.length_cons,List.length_nil];omega)
 have g3:∀r,oC (pQ src++pQ dst++toStr [[.int 0],r]) (nW length)=true:=fun r=>Xm (by simp only[List.length_append,rl,List.length_cons,List.length_nil];omega)
 unfold SZ rp
 simp only[g1,g2,g3,ng,cond_true]
 exact J5 (K:=fun r:Bytes×Bool=>k_ r.1 r.2) rfl rfl
def Ss {α:Type} (k_:Int→α) (kind:Int):α:=
 bif kind==6 then k_ 16
 else k_ 6
def NN (kind:Int):Int:=Ss id kind
theorem nnR {α:Type} (k_:Int→α) (kind:Int):Ss k_ kind=k_ (NN kind):=by
 exact J5 rfl rfl
def Ug (k_:Bytes→α) (g:nF):α:=
 let z0:Bytes:=(nW g.ph)++(nW g.pg)
 let z1:Bytes:=z0++(pQ g.Seq)
 let z2:Bytes:=z1++(pQ g.Ack)
 let z3:Bytes:=z2++(toStr ([[.int 80],[.int (IntKind.wrap .u8 g.Flags)]]))
 let z4:Bytes:=z3++(nW g.wL)
 let z5:Bytes:=z4++(nW 0)
 let z6:Bytes:=z5++(nW 0)
 let z7:Bytes:=nW (nS (8+(len g.Body)))
 let z8:Bytes:=z0++z7
 let z9:Bytes:=z8++(nW 0)
 bif Ec true (oC (nW g.ph) (nW g.pg)) then
  bif g.Kind==6 then
   bif Ec (Ec (Ec (Ec (Ec (Ec (Ec true (oC z0 (pQ g.Seq))) (oC z1 (pQ g.Ack))) (oC z2 (toStr ([[.int 80],[.int (IntKind.wrap .u8 g.Flags)]])))) (oC z3 (nW g.wL))) (oC z4 (nW 0))) (oC z5 (nW 0))) (oC z6 g.Body) then
    k_ (z6++g.Body)
   else kd
  else bif Ec (Ec (Ec true (oC z0 z7)) (oC z8 (nW 0))) (oC z9 g.Body) then
    k_ (z9++g.Body)
   else kd
 else kd
def nak (q:nF):Bytes:=bif q.Kind==6 then nW q.ph++nW q.pg++pQ q.Seq++pQ q.Ack++toStr ([[.int 80],[.int (IntKind.wrap .u8 q.Flags)]])++nW q.wL++nW 0++nW 0
 else nW q.ph++nW q.pg++nW (nS (8+(len q.Body)))++nW 0
def pH (q:nF):Bytes:=nak q++q.Body
def ntN (q:nF):Bool:=decide (q.Body.length≤1000)
theorem nm9 (q:nF):(nak q).length≤20:=by
 have a:=ou q.ph
 have b:=ou q.pg
 have c:=qR q.Seq
 have d:=qR q.Ack
 have e:=ou q.wL
 have f:=ou 0
 have h:=ou (nS (8+(len q.Body)))
 unfold nak
 cases q.Kind==6
 ·simp only[cond_false,List.length_append];omega
 ·simp only[cond_true,List.length_append,rl,List.length_cons,List.length_nil];omega
theorem nav (q:nF):(pH q).length≤q.Body.length+20:=by
 have:=nm9 q
 simp only[pH,List.length_append]
 omega
theorem ng3 (k_:Bytes→α) (g:nF) (aJ:ntN g=true):Ug kd k_ g=k_ (pH g):=by
 have hb:g.Body.length≤1000:=of_decide_eq_true aJ
 have a:=ou g.ph
 have b:=ou g.pg
 have c:=qR g.Seq
 have d:=qR g.Ack
 have e:=ou g.wL
 have f:=ou 0
 have f4:=qR 0
 have hh:=ou (nS (8+(len g.Body)))
 unfold Ug pH nak
 refine qL (by simp only[gn,oC,ss,List.length_append,rl,List.length_cons,List.length_nil,decide_eq_true_eq,true_and,and_true];omega) ?_
 cases g.Kind==6
 ·simp only[cond_false]
  refine qL (by simp only[gn,oC,ss,List.length_append,rl,List.length_cons,List.length_nil,decide_eq_true_eq,true_and,and_true];omega) ?_
  rfl
 ·simp only[cond_true]
  refine qL (by simp only[gn,oC,ss,List.length_append,rl,List.length_cons,List.length_nil,decide_eq_true_eq,true_and,and_true];omega) ?_
  rfl
def SP (k_:Bytes→Bool→α) (src dst:Int) (g:nF):α:=
 let z0:Bytes×Bool:=rp src dst g.Kind (len (pH g))
 let z1:Bytes:=z0.1++(pH g)
 let z2:Int:=O1 z1
 let z3:Bytes:=nW (bif bif g.Kind==17 then z2==0 else false then 65535 else z2)
 bif !(tJ g) then k_ [] false
 else bif Ec true (ntN g) then
   bif !z0.2 then k_ [] false
   else bif Ec (Ec true (oC z0.1 (pH g))) (ss z1) then
     bif Ec true (rA (pH g) (NN g.Kind) z3) then
      k_ (u0 (pH g) (NN g.Kind) z3) true
     else kd
    else kd
  else kd
theorem nuU (kind:Int):NN kind=bif kind==6 then 16 else 6:=by
 unfold NN Ss
 cases kind==6<;>rfl
def nmk (src dst:Int) (g:nF):Int:=O1 ((rp src dst g.Kind (len (pH g))).1++pH g)
def tw (src dst:Int) (g:nF):Bytes×Bool:=
 bif !(tJ g) then ([],false) else bif !(rp src dst g.Kind (len (pH g))).2 then ([],false)
 else (u0 (pH g) (NN g.Kind) (nW (bif bif g.Kind==17 then nmk src dst g==0 else false then 65535 else nmk src dst g)),true)
theorem ne4 (k_:Bytes→Bool→α) (src dst:Int) (g:nF):SP kd k_ src dst g=k_ (tw src dst g).1 (tw src dst g).2:=by
 unfold SP tw
 refine qP (K:=fun r:Bytes×Bool=>k_ r.1 r.2) (fun _=>rfl) (fun hg=> ?_)
 have hs:tJ g=true:=by simpa using hg
 have a:=nvz hs
 have b:=nav g
 have hp:=XY src dst g.Kind (len (pH g))
 have g1:ntN g=true:=decide_eq_true (by omega)
 have g2:oC (rp src dst g.Kind (len (pH g))).1 (pH g)=true:=Xm (by omega)
 have g3:∀v,rA (pH g) (NN g.Kind) (nW v)=true:=fun v=>by
  have:=ou v
  simp only[rA,Bool.and_eq_true,decide_eq_true_eq];omega
 have g4:ss ((rp src dst g.Kind (len (pH g))).1++pH g)=true:=decide_eq_true (by rw[List.length_append];omega)
 simp only[g1,g2,g3,g4,ng,cond_true]
 exact J5 (K:=fun r:Bytes×Bool=>k_ r.1 r.2) rfl rfl
def Tp (k_:Bytes→Bool→α) (src dst:Int) (g:nF):α:=
 let z0:Bytes:=(nW g.ph)++(nW g.pg)
 let z1:Bytes:=z0++(pQ g.Seq)
 let z2:Bytes:=z1++(pQ g.Ack)
 let z3:Bytes:=z2++(toStr ([[.int 80],[.int (IntKind.wrap .u8 g.Flags)]]))
 let z4:Bytes:=z3++(nW g.wL)
 let z5:Bytes:=nW (nS (8+(len g.Body)))
 let z6:Bytes:=z0++z5
 let z7:Bytes:=bif g.Kind==6 then z4++(pQ 0) else z6++(nW 0)
 let z8:Bytes:=z7++g.Body
 let z9:Bytes×Bool:=rp src dst g.Kind (len z8)
 let z10:Bytes:=z9.1
 let z11:Bytes:=z10++z8
 let z12:Int:=bif g.Kind==6 then 16 else 6
 let z13:Int:=O1 z11
 let z14:Bytes:=nW (bif bif z13==0 then g.Kind==17 else false then 65535 else z13)
 bif !(tJ g) then k_ [] false
 else bif Ec true (oC (nW g.ph) (nW g.pg)) then
   bif LV (g.Kind==6) (Ec (Ec (Ec (Ec (Ec true (oC z0 (pQ g.Seq))) (oC z1 (pQ g.Ack))) (oC z2 (toStr ([[.int 80],[.int (IntKind.wrap .u8 g.Flags)]])))) (oC z3 (nW g.wL))) (oC z4 (pQ 0))) (Ec (Ec true (oC z0 z5)) (oC z6 (nW 0))) then
    bif Ec true (oC z7 g.Body) then
     bif !z9.2 then k_ [] false
     else bif Ec (Ec true (oC z10 z8)) (ss z11) then
       bif Ec true (rA z8 z12 z14) then
        k_ (u0 z8 z12 z14) true
       else kd
      else kd
    else kd
   else kd
  else kd
theorem nfA (k_:Bytes→Bool→α) (src dst:Int) (g:nF):Tp kd k_ src dst g=k_ (tw src dst g).1 (tw src dst g).2:=by
 unfold Tp tw
 refine qP (K:=fun r:Bytes×Bool=>k_ r.1 r.2) (fun _=>rfl) (fun hg=> ?_)
 have hs:tJ g=true:=by simpa using hg
 have ha:=nvz hs
 have hb:=nav g
 have hp:=XY src dst g.Kind (len (pH g))
 have a:=ou g.ph
 have b:=ou g.pg
 have c:=qR g.Seq
 have d:=qR g.Ack
 have e:=ou g.wL
 have f:=ou 0
 have f4:=qR 0
 have hh:=ou (nS (8+(len g.Body)))
 have e0:pQ 0=nW 0++nW 0:=by unfold pQ nW Rw Rv;rfl
 have eh:(bif g.Kind==6 then nW g.ph++nW g.pg++pQ g.Seq++pQ g.Ack++toStr ([[.int 80],[.int (IntKind.wrap .u8 g.Flags)]])++nW g.wL++pQ 0 else nW g.ph++nW g.pg++nW (nS (8+(len g.Body)))++nW 0)=nak g:=by
  unfold nak
  cases g.Kind==6
  ·rfl
  ·simp only[cond_true,e0,List.append_assoc]
 refine qL (by simp only[gn,oC,ss,List.length_append,rl,List.length_cons,List.length_nil,decide_eq_true_eq,true_and,and_true];omega) ?_
 refine qL (nd1 (fun _=>(by simp only[gn,oC,ss,List.length_append,rl,List.length_cons,List.length_nil,decide_eq_true_eq,true_and,and_true];omega)) (fun _=>(by simp only[gn,oC,ss,List.length_append,rl,List.length_cons,List.length_nil,decide_eq_true_eq,true_and,and_true];omega))) ?_
 rw[eh]
 have DJ:=nm9 g
 refine qL (by simp only[gn,oC,ss,List.length_append,rl,List.length_cons,List.length_nil,decide_eq_true_eq,true_and,and_true];omega) ?_
 have eb:nak g++g.Body=pH g:=rfl
 rw[eb]
 have es:(bif g.Kind==6 then (16:Int) else 6)=NN g.Kind:=(nuU _).symm
 have g2:oC (rp src dst g.Kind (len (pH g))).1 (pH g)=true:=Xm (by omega)
 have g3:∀v,rA (pH g) (NN g.Kind) (nW v)=true:=fun v=>by
  have:=ou v
  simp only[rA,Bool.and_eq_true,decide_eq_true_eq];omega
 have ez:(bif nmk src dst g==0 then g.Kind==17 else false)=(bif g.Kind==17 then nmk src dst g==0 else false):=by
  cases nmk src dst g==0<;>cases g.Kind==17<;>rfl
 have es2:O1 ((rp src dst g.Kind (len (pH g))).1++pH g)=nmk src dst g:=rfl
 have g4:ss ((rp src dst g.Kind (len (pH g))).1++pH g)=true:=decide_eq_true (by rw[List.length_append];omega)
 simp only[es,es2,ez,g2,g3,g4,ng,cond_true]
 exact J5 (K:=fun r:Bytes×Bool=>k_ r.1 r.2) rfl rfl
def ncS {α:Type} (k_:Bool→α) (d:yM):α:=
 k_ (bif nj d.Tos 0 255 then bif nj d.Ttl 0 255 then bif nj d.ntl 0 255 then bif nj d.Id 0 65535 then bif nj d.Src 0 4294967295 then bif nj d.Dst 0 4294967295 then decide (len d.Body≤380) else false else false else false else false else false else false)
def ntJ (d:yM):Bool:=ncS id d
theorem nm1 {α:Type} (k_:Bool→α) (d:yM):ncS k_ d=k_ (ntJ d):=by
 rfl
def naN (k_:Bytes→Bool→α) (d:yM):α:=
 let z0:Bytes:=nW (nS (20+(len d.Body)))
 let z1:Bytes:=(toStr ([[.int 69],[.int (IntKind.wrap .u8 d.Tos)]]))++z0
 let z2:Bytes:=z1++(nW d.Id)
 let z3:Bytes:=z2++(nW 16384)
 let z4:Bytes:=z3++(toStr ([[.int (IntKind.wrap .u8 d.Ttl)],[.int (IntKind.wrap .u8 d.ntl)]]))
 let z5:Bytes:=z4++(nW 0)
 let z6:Bytes:=z5++(pQ d.Src)
 let z7:Bytes:=z6++(pQ d.Dst)
 let z8:Bytes:=nW (O1 z7)
 bif !(ntJ d) then k_ [] false
 else bif Ec (Ec (Ec (Ec (Ec (Ec (Ec true (oC (toStr ([[.int 69],[.int (IntKind.wrap .u8 d.Tos)]])) z0)) (oC z1 (nW d.Id))) (oC z2 (nW 16384))) (oC z3 (toStr ([[.int (IntKind.wrap .u8 d.Ttl)],[.int (IntKind.wrap .u8 d.ntl)]])))) (oC z4 (nW 0))) (oC z5 (pQ d.Src))) (oC z6 (pQ d.Dst)) then
   bif Ec (Ec true (ss z7)) (rA z7 10 z8) then
    k_ (u0 z7 10 z8) true
   else kd
  else kd
def ipz (d:yM):Bytes:=toStr ([[.int 69],[.int (IntKind.wrap .u8 d.Tos)]])++nW (nS (20+(len d.Body)))++nW d.Id++nW 16384++toStr ([[.int (IntKind.wrap .u8 d.Ttl)],[.int (IntKind.wrap .u8 d.ntl)]])++nW 0++pQ d.Src++pQ d.Dst
theorem nvr (d:yM):(ipz d).length≤20:=by
 have a:=ou (nS (20+(len d.Body)))
 have b:=ou d.Id
 have c:=ou 16384
 have e:=ou 0
 have f:=qR d.Src
 have h:=qR d.Dst
 simp only[ipz,List.length_append,rl,List.length_cons,List.length_nil]
 omega
def uZ (d:yM):Bytes×Bool:=bif !(ntJ d) then ([],false) else (u0 (ipz d) 10 (nW (O1 (ipz d))),true)
theorem nut {d:yM} (h:ntJ d=true):d.Body.length≤380:=by
 unfold ntJ ncS at h
 by_cases h3:len d.Body≤380
 ·simp only[len] at h3
  omega
 ·rw[decide_eq_false h3] at h
  revert h
  cases nj d.Tos 0 255<;>cases nj d.Ttl 0 255<;>cases nj d.ntl 0 255<;>cases nj d.Id 0 65535<;>cases nj d.Src 0 4294967295<;>cases nj d.Dst 0 4294967295<;>simp
theorem nij (d:yM):(uZ d).1.length≤20:=by
 unfold uZ
 cases ntJ d
 ·exact Nat.zero_le _
 ·have:=nvr d
  simp only[Bool.not_true,cond_false]
  rw[npP (by omega)]
  exact this
theorem nmW {d:yM} (h:(uZ d).2=true):ntJ d=true:=by
 unfold uZ at h
 cases hi:ntJ d
 ·rw[hi] at h;cases h
 ·rfl
theorem naM (k_:Bytes→Bool→α) (d:yM):naN kd k_ d=k_ (uZ d).1 (uZ d).2:=by
 have a:=ou (nS (20+(len d.Body)))
 have b:=ou d.Id
 have c:=ou 16384
 have e:=ou 0
 have f:=qR d.Src
 have h:=qR d.Dst
 unfold naN uZ
 refine qP (K:=fun r:Bytes×Bool=>k_ r.1 r.2) (fun _=>rfl) (fun hg=> ?_)
 refine qL (by simp only[gn,oC,ss,List.length_append,rl,List.length_cons,List.length_nil,decide_eq_true_eq,true_and,and_true];omega) ?_
 have hz:=nvr d
 have g3:∀v,rA (ipz d) 10 (nW v)=true:=fun v=>by
  have:=ou v
  simp only[rA,Bool.and_eq_true,decide_eq_true_eq];omega
 have g4:ss (ipz d)=true:=decide_eq_true (by omega)
 refine qL ?_ rfl
 rw[gn,gn]
 exact⟨⟨rfl,g4⟩,g3 _⟩
def ncN (k_:Bytes→Bool→α) (d:yM):α:=
 bif !((uZ d).2) then k_ [] false
 else bif Ec true (oC ((uZ d).1) d.Body) then
   k_ (((uZ d).1)++d.Body) true
  else kd
def Tw (d:yM):Bytes×Bool:=bif !(uZ d).2 then ([],false) else ((uZ d).1++d.Body,true)
theorem nuq (d:yM):(Tw d).1.length≤400:=by
 unfold Tw
 cases h:(uZ d).2
 ·exact Nat.zero_le _
 ·have h1:=nut (nmW h)
  have h2:=nij d
  simp only[Bool.not_true,cond_false,List.length_append]
  omega
theorem ncM (k_:Bytes→Bool→α) (d:yM):ncN kd k_ d=k_ (Tw d).1 (Tw d).2:=by
 unfold ncN Tw
 refine qP (K:=fun r:Bytes×Bool=>k_ r.1 r.2) (fun _=>rfl) (fun hg=> ?_)
 have h1:=nut (nmW (d:=d) (by simpa using hg))
 have h2:=nij d
 refine qL (by simp only[gn,oC,ss,List.length_append,rl,List.length_cons,List.length_nil,decide_eq_true_eq,true_and,and_true];omega) rfl
def ncT (k_:Bytes→α) (s:Bytes):α:=
 let z0:Bytes:=nj0 0 (nS (46 - (len s)))
 bif decide (46≤len s) then k_ s
 else bif Ec (Ec true (ne2 0 (nS (46 - (len s))))) (oC s z0) then
   k_ (s++z0)
  else kd
def Rm (s:Bytes):Bytes:=bif decide (46≤len s) then s else s++N3 (46 - len s) 0
theorem nuu {s:Bytes} {n:Nat} (h:s.length≤n) (h46:46≤n):46≤(Rm s).length∧(Rm s).length≤n:=by
 unfold Rm
 by_cases hc:46≤len s
 ·simp only[decide_eq_true hc,cond_true]
  simp only[len] at hc
  omega
 ·simp only[decide_eq_false hc,cond_false,List.length_append,N3,List.length_replicate]
  simp only[len] at hc ⊢
  omega
theorem np9 (k_:Bytes→α) (s:Bytes) (Nr:G3 .str (.str s)):ncT kd k_ s=k_ (Rm s):=by
 have hl:=zf Nr
 have hl0:0≤len s:=by simp [len]
 have GG:len s≤9223372036854775807:=by simp only[len];omega
 unfold ncT Rm
 by_cases h:46≤len s
 ·have h2:¬len s<46:=by omega
  simp only[h,h2,decide_true,decide_false,cond_true,cond_false]
 ·have h2:len s<46:=by omega
  have e:nS (46 - len s)=46 - len s:=nJ (by omega) (by omega)
  have o1:Qz (46 - len s) 0=true:=pf.2 (by omega)
  have o2:oC s (N3 (46 - len s) 0)=true:=Xm (by simp only[N3,List.length_replicate,len] at*;omega)
  simp only[h,h2,decide_true,decide_false,cond_true,cond_false,e,ne2,nj0,o1,o2,ng]
def nd8 (k_:Bytes→α) (s:Bytes):α:=
 let z0:Bytes:=N3 (nS (46 - (len s))) 0
 bif decide (len s<46) then
  bif Ec (Ec true (Qz (nS (46 - (len s))) 0)) (oC s z0) then
   k_ (s++z0)
  else kd
 else k_ s
theorem nrB (k_:Bytes→α) (s:Bytes) (Nr:G3 .str (.str s)):nd8 kd k_ s=k_ (Rm s):=by
 have hl:=zf Nr
 have hl0:0≤len s:=by simp [len]
 have GG:len s≤9223372036854775807:=by simp only[len];omega
 unfold nd8 Rm
 by_cases h:46≤len s
 ·have h2:¬len s<46:=by omega
  simp only[h,h2,decide_true,decide_false,cond_true,cond_false]
 ·have h2:len s<46:=by omega
  have e:nS (46 - len s)=46 - len s:=nJ (by omega) (by omega)
  have o1:Qz (46 - len s) 0=true:=pf.2 (by omega)
  have o2:oC s (N3 (46 - len s) 0)=true:=Xm (by simp only[N3,List.length_replicate,len] at*;omega)
  simp only[h,h2,decide_true,decide_false,cond_true,cond_false,e,o1,o2,ng]
def TA {α:Type} (k_:Bool→α) (e:tV):α:=
 k_ (bif nj e.Dst 0 281474976710655 then bif nj e.Src 0 281474976710655 then bif nj e.vt (-1) 4095 then bif nj e.VU 1536 65535 then bif e.VU != 33024 then nj (len e.Body) 46 400 else false else false else false else false else false)
def nii (e:tV):Bool:=TA id e
theorem niq {α:Type} (k_:Bool→α) (e:tV):TA k_ e=k_ (nii e):=by
 rfl
def nbj (k_:Bytes→α) (a:Int):α:=
 bif Ec true (oC (nW (VS .i64 a 32)) (pQ (bits .and .i64 a 4294967295))) then
  k_ ((nW (VS .i64 a 32))++(pQ (bits .and .i64 a 4294967295)))
 else kd
def rQ (a:Int):Bytes:=nW (VS .i64 a 32)++pQ (bits .and .i64 a 4294967295)
theorem zM (x:Int):(rQ x).length≤6:=by
 have a:=ou (VS .i64 x 32)
 have b:=qR (bits .and .i64 x 4294967295)
 simp only[rQ,List.length_append]
 omega
theorem nbi (k_:Bytes→α) (a:Int):nbj kd k_ a=k_ (rQ a):=by
 have q1:=ou (VS .i64 a 32)
 have q2:=qR (bits .and .i64 a 4294967295)
 unfold nbj rQ
 refine qL (by simp only[gn,oC,ss,List.length_append,rl,List.length_cons,List.length_nil,decide_eq_true_eq,true_and,and_true];omega) rfl
def naw (k_:Bytes→Bool→α) (e:tV):α:=
 let z0:Bytes:=(rQ e.Dst)++(rQ e.Src)
 let z1:Bytes:=(nW 33024)++(nW e.vt)
 let z2:Bytes:=bif decide (0≤e.vt) then z0++z1 else z0
 let z3:Bytes:=z2++(nW e.VU)
 bif !(nii e) then k_ [] false
 else bif Ec true (oC (rQ e.Dst) (rQ e.Src)) then
   bif LV (decide (0≤e.vt)) (Ec (Ec true (oC (nW 33024) (nW e.vt))) (oC z0 z1)) true then
    bif Ec (Ec true (oC z2 (nW e.VU))) (oC z3 e.Body) then
     k_ (z3++e.Body) true
    else kd
   else kd
  else kd
def neV (e:tV):Bytes:=bif decide (0≤e.vt) then rQ e.Dst++rQ e.Src++(nW 33024++nW e.vt) else rQ e.Dst++rQ e.Src
def yP (e:tV):Bytes×Bool:=bif !(nii e) then ([],false) else (neV e++nW e.VU++e.Body,true)
theorem nmY (e:tV):(neV e).length≤16:=by
 have a:=zM e.Dst
 have b:=zM e.Src
 have c:=ou 33024
 have d:=ou e.vt
 unfold neV
 cases decide (0≤e.vt)
 ·simp only[cond_false,List.length_append];omega
 ·simp only[cond_true,List.length_append];omega
theorem ntk {e:tV} (h:nii e=true):e.Body.length≤400:=by
 unfold nii TA at h
 cases hb:nj (len e.Body) 46 400
 ·rw[hb] at h
  revert h
  cases nj e.Dst 0 281474976710655<;>cases nj e.Src 0 281474976710655<;>cases nj e.vt (-1) 4095<;>cases nj e.VU 1536 65535<;>cases e.VU != 33024<;>simp
 ·have:=pf.1 hb
  simp only[len] at this
  omega
theorem nnj (k_:Bytes→Bool→α) (e:tV):naw kd k_ e=k_ (yP e).1 (yP e).2:=by
 have a:=zM e.Dst
 have b:=zM e.Src
 have c:=ou 33024
 have d:=ou e.vt
 have f:=ou e.VU
 unfold naw yP
 refine qP (K:=fun r:Bytes×Bool=>k_ r.1 r.2) (fun _=>rfl) (fun hg=> ?_)
 have hb:=ntk (e:=e) (by simpa using hg)
 refine qL (by simp only[gn,oC,ss,List.length_append,rl,List.length_cons,List.length_nil,decide_eq_true_eq,true_and,and_true];omega) ?_
 refine qL (nd1 (fun _=>(by simp only[gn,oC,ss,List.length_append,rl,List.length_cons,List.length_nil,decide_eq_true_eq,true_and,and_true];omega)) (fun _=>rfl)) ?_
 have eh:(bif decide (0≤e.vt) then rQ e.Dst++rQ e.Src++(nW 33024++nW e.vt) else rQ e.Dst++rQ e.Src)=neV e:=rfl
 rw[eh]
 have hh:=nmY e
 refine qL (by simp only[gn,oC,ss,List.length_append,rl,List.length_cons,List.length_nil,decide_eq_true_eq,true_and,and_true];omega) rfl
def nb0 (k_:Bytes→Bool→α) (e:tV):α:=
 let z0:Bytes:=(rQ e.Dst)++(rQ e.Src)
 let z1:Bytes:=z0++(nW 33024)
 let z2:Bytes:=bif decide (0≤e.vt) then z1++(nW e.vt) else z0
 let z3:Bytes:=z2++(nW e.VU)
 bif !(nii e) then k_ [] false
 else bif Ec true (oC (rQ e.Dst) (rQ e.Src)) then
   bif LV (decide (0≤e.vt)) (Ec (Ec true (oC z0 (nW 33024))) (oC z1 (nW e.vt))) true then
    bif Ec (Ec true (oC z2 (nW e.VU))) (oC z3 e.Body) then
     k_ (z3++e.Body) true
    else kd
   else kd
  else kd
theorem no5 (k_:Bytes→Bool→α) (e:tV):nb0 kd k_ e=k_ (yP e).1 (yP e).2:=by
 have a:=zM e.Dst
 have b:=zM e.Src
 have c:=ou 33024
 have d:=ou e.vt
 have f:=ou e.VU
 unfold nb0 yP
 refine qP (K:=fun r:Bytes×Bool=>k_ r.1 r.2) (fun _=>rfl) (fun hg=> ?_)
 have hb:=ntk (e:=e) (by simpa using hg)
 refine qL (by simp only[gn,oC,ss,List.length_append,rl,List.length_cons,List.length_nil,decide_eq_true_eq,true_and,and_true];omega) ?_
 refine qL (nd1 (fun _=>(by simp only[gn,oC,ss,List.length_append,rl,List.length_cons,List.length_nil,decide_eq_true_eq,true_and,and_true];omega)) (fun _=>rfl)) ?_
 have eh:(bif decide (0≤e.vt) then rQ e.Dst++rQ e.Src++nW 33024++nW e.vt else rQ e.Dst++rQ e.Src)=neV e:=by
  unfold neV
  cases decide (0≤e.vt)
  ·rfl
  ·simp only[cond_true,List.append_assoc]
 rw[eh]
 have hh:=nmY e
 refine qL (by simp only[gn,oC,ss,List.length_append,rl,List.length_cons,List.length_nil,decide_eq_true_eq,true_and,and_true];omega) rfl
def VX {α:Type} (k_:Bytes→Bool→α) (p:nQ):α:=
 let z0:Bytes×Bool:=yP (⟨p.O2,p.O5,p.vt,2048,Rm ((Tw (⟨p.Tos,p.Id,p.Ttl,p.Ow.Kind,p.rk,p.rK,(tw p.rk p.rK p.Ow).1⟩:yM)).1)⟩:tV)
 bif !(NP p) then k_ [] false
 else k_ z0.1 z0.2
def Xo (p:nQ):tV:=(⟨p.O2,p.O5,p.vt,2048,Rm (Tw (⟨p.Tos,p.Id,p.Ttl,p.Ow.Kind,p.rk,p.rK,(tw p.rk p.rK p.Ow).1⟩:yM)).1⟩:tV)
def oP (p:nQ):Bytes×Bool:=bif !(NP p) then ([],false) else yP (Xo p)
theorem VV {α:Type} (k_:Bytes→Bool→α) (p:nQ):VX k_ p=k_ (oP p).1 (oP p).2:=by
 unfold VX oP
 exact J5 (K:=fun r:Bytes×Bool=>k_ r.1 r.2) rfl rfl
theorem ngI (p:Nat→List DC→Bool):∀(l:Rows) (s:Nat),rL p l s=true↔∃i,i<l.length∧p (s+i) (nth l i)=true
 | [],s=>by simp [rL]
 | r::l,s=>by
  unfold rL
  cases hp:p s r
  ·simp only[cond_false,ngI p l (s+1)]
   constructor
   ·rintro ⟨i,h1,h2⟩
    refine⟨i+1,by simp;omega, ?_⟩
    rw[show s+(i+1)=s+1+i by omega]
    exact h2
   ·rintro ⟨i,h1,h2⟩
    cases i with
    | zero=>exfalso;rw[show nth (r::l) 0=r from rfl,Nat.add_zero,hp] at h2;cases h2
    | succ i=>
     refine⟨i,by simp only[List.length_cons] at h1;omega, ?_⟩
     rw[show s+1+i=s+(i+1) by omega]
     exact h2
  ·simp only[cond_true,true_iff]
   exact⟨0,by simp,hp⟩
theorem ntn {p:Nat→List DC→Bool} {l:Rows} {s:Nat} (h:rL p l s=false):∀i,i<l.length→p (s+i) (nth l i)=false:=by
 intro i hi
 cases hp:p (s+i) (nth l i)
 ·rfl
 ·rw[(ngI p l s).2 ⟨i,hi,hp⟩] at h
  cases h
theorem Ph (p:Nat→List DC→Bool):∀(l:Rows) (s:Nat),(findIdx p l s= -1∧∀i,i<l.length→p (s+i) (nth l i)=false)∨∃i,i<l.length∧findIdx p l s=((s+i:Nat):Int)∧p (s+i) (nth l i)=true
 | [],s=> .inl ⟨rfl,by simp⟩
 | r::l,s=>by
  unfold findIdx
  cases hp:p s r
  ·rcases Ph p l (s+1) with ⟨h1,h2⟩ | ⟨i,h1,h2,h3⟩
   ·refine .inl ⟨h1,fun i hi=> ?_⟩
    cases i with
    | zero=>exact hp
    | succ i=>
     rw[show s+(i+1)=s+1+i by omega]
     exact h2 i (by simp only[List.length_cons] at hi;omega)
   ·refine .inr ⟨i+1,by simp;omega, ?_, ?_⟩
    ·rw[cond_false,h2,show s+(i+1)=s+1+i by omega]
    ·rw[show s+(i+1)=s+1+i by omega]
     exact h3
  ·exact .inr ⟨0,by simp,rfl,hp⟩
theorem nkq {x m:Int} (h0:0≤x) (hm:0<m):0≤Int.tmod x m∧Int.tmod x m<m:=⟨Int.tmod_nonneg _ h0,Int.tmod_lt_of_pos _ hm⟩
theorem nwE (l:Rows) (i j:Nat) (x:List DC) (hi:i<l.length):nth (l.set i x) j=if j=i then x else nth l j:=by
 simp only[nth,List.getD_eq_getElem?_getD]
 by_cases h:j=i
 ·subst h
  rw[List.getElem?_set_self hi,if_pos rfl]
  rfl
 ·rw[List.getElem?_set_ne (fun e=>h e.symm),if_neg h]
theorem nv4 (a b:Bool):(bif a then b else false)=true↔a=true∧b=true:=by cases a<;>cases b<;>simp
theorem ntM {p:Nat→List DC→Bool} {l:Rows} (h:∀i,i<l.length→p i (nth l i)=false):rL p l 0=false:=by
 cases ha:rL p l 0
 ·rfl
 ·obtain⟨i,hi,h2⟩:=(ngI p l 0).1 ha
  rw[Nat.zero_add,h i hi] at h2
  cases h2
theorem nvo {p:Nat→Bool} :∀ {m i:Nat},yN p m i=false→∀j,i≤j→j<i+m→p j=false
 | 0,_,_,j,h1,h2=>by omega
 | m+1,i,h,j,h1,h2=>by
  rw[yN] at h
  cases hp:p i
  ·rw[hp] at h
   by_cases hj:j=i
   ·rw[hj];exact hp
   ·exact nvo h j (by omega) (by omega)
  ·rw[hp] at h;cases h
theorem npR {p:Nat→List DC→Bool} :∀ {l:Rows} {s:Nat},rL p l s=false→∀r∈l,∃i,p i r=false
 | [],_,_,r,h=>by simp at h
 | x::xs,s,h,r,hr=>by
  simp only[rL] at h
  cases hp:p s x
  ·rw[hp] at h
   rcases List.mem_cons.1 hr with rfl | hr
   ·exact⟨s,hp⟩
   ·exact npR h r hr
  ·rw[hp] at h
   cases h
theorem TM {l:Rows} (h:pO l=true):len l≤96∧∀r∈l,xq r=false:=by
 unfold pO at h
 by_cases h9:96<len l
 ·simp [h9] at h
 ·refine⟨by omega,fun r hr=> ?_⟩
  simp only[decide_eq_false h9,cond_false] at h
  cases ha:rL (fun i r=>bif xq r then true else yN (fun j=>bif (rI (nth l j) 0)==(rI r 0) then (rI (nth l j) 1)==(rI r 1) else false) i 0) l 0
  ·obtain⟨i,hi⟩:=npR ha r hr
   cases hb:xq r
   ·rfl
   ·rw[hb] at hi
    cases hi
  ·rw[ha] at h
   cases h
def pgs (l:Rows):Prop:=∀i,i<l.length→∃p:Bytes,nth l i=[.str p]∧p.length=128
theorem nt9 {l:Rows} (hw:G3 (.sl [.str]) (.sl l)) (h:qM (⟨l⟩:na)=true):pgs l∧l.length≤64:=by
 unfold qM at h
 cases ha:rL (fun _ r=>(len (rS r 0)) != 128) l 0
 ·rw[show rL (fun _ r=>(len (rS r 0)) != 128) (⟨l⟩:na).nK 0=false from ha] at h
  have hl:len l≤64:=of_decide_eq_true h
  refine⟨fun i hi=> ?_,by simp only[len] at hl;omega⟩
  obtain⟨_,hw⟩:=oS hw
  have h1:=nua (hw (nth l i) (tn hi))
  have h2:=ntn ha i hi
  refine⟨rS (nth l i) 0,h1.symm, ?_⟩
  have h3:len (rS (nth l i) 0)=128:=by simpa using h2
  simp only[len] at h3
  omega
 ·rw[show rL (fun _ r=>(len (rS r 0)) != 128) (⟨l⟩:na).nK 0=true from ha] at h
  cases h
theorem nw5 {l:Rows} (h:pgs l) (hl:l.length≤64):qM (⟨l⟩:na)=true:=by
 unfold qM
 rw[ntM (fun i hi=> ?_)]
 ·exact decide_eq_true (by simp only[len];omega)
 ·obtain⟨p,hp,h2⟩:=h i hi
  show (len (rS (nth l i) 0) != 128)=false
  rw[hp]
  show ((p.length:Int) != 128)=false
  rw[h2]
  rfl
theorem nwo (a b:Nat):Int.tdiv (a:Int) (b:Int)=((a / b:Nat):Int):=rfl
theorem nwp (a b:Nat):Int.tmod (a:Int) (b:Int)=((a % b:Nat):Int):=rfl
theorem nko (a:Nat):Int.tdiv (a:Int) 128=((a / 128:Nat):Int):=nwo a 128
theorem nkp (a:Nat):Int.tmod (a:Int) 128=((a % 128:Nat):Int):=nwp a 128
def niO (k_:Int→α) (nc:Rows) (domain address:Int) (write:Bool):α:=
 let z0:Int:=tT nc domain (nS (Int.tdiv address 128))
 let z1:Bool:=decide (z0<0)
 let z2:Bool:=Ec true (idx z0 nc)
 let z3:List DC:=nth nc (Int.toNat z0)
 bif decide (address<0) then k_ (-1)
 else bif LV z1 true (LV write z2 true) then
   bif bif z1 then true else bif write then !(rB z3 3) else false then k_ (-1)
   else bif z2 then
     k_ (nS ((nS ((rI z3 2)*128))+(Int.tmod address 128)))
    else kd
  else kd
def nro (nc:Rows) (domain address:Int):Int:=tT nc domain (nS (Int.tdiv address 128))
def place (nc:Rows) (domain address:Int) (write:Bool):Int:=
 bif decide (address<0) then -1
 else bif bif decide (nro nc domain address<0) then true else bif write then !(rB (nth nc (Int.toNat (nro nc domain address))) 3) else false then -1
 else nS ((nS ((rI (nth nc (Int.toNat (nro nc domain address))) 2)*128))+(Int.tmod address 128))
theorem nrp (nc:Rows) (domain address:Int):nro nc domain address<0∨∃i:Nat,i<nc.length∧nro nc domain address=(i:Int)∧rI (nth nc i) 0=domain:=by
 unfold nro tT
 rcases Ph (fun _ r=>bif (rI r 0)==domain then (rI r 1)==(nS (Int.tdiv address 128)) else false) nc 0 with ⟨h,_⟩ | ⟨i,h1,h2,h3⟩
 ·exact .inl (by rw[h];decide)
 ·refine .inr ⟨i,h1,by rw[h2];simp, ?_⟩
  have:=(nv4 _ _).1 h3
  simpa using this.1
theorem ntZ (k_:Int→α) (nc:Rows) (domain address:Int) (write:Bool) (rF:G3 (.sl [.i,.i,.i,.bool]) (.sl nc)):niO kd k_ nc domain address write=k_ (place nc domain address write):=by
 obtain⟨hl,_⟩:=oS rF
 unfold niO place
 refine J5 rfl ?_
 show (bif LV (decide (nro nc domain address<0)) true (LV write (Ec true (idx (nro nc domain address) nc)) true) then _ else kd)=_
 rcases nrp nc domain address with h | ⟨i,h1,h2,_⟩
 ·have e:decide (nro nc domain address<0)=true:=decide_eq_true h
  have e2:∀x,LV true true x=true:=fun x=>by cases x<;>rfl
  have e':decide (tT nc domain (nS (Int.tdiv address 128))<0)=true:=e
  simp only[e,e',e2,cond_true]
 ·have hx:idx (nro nc domain address) nc=true:=by rw[h2];exact n9 h1
  have Cj:idx (tT nc domain (nS (Int.tdiv address 128))) nc=true:=hx
  simp only[hx,Cj,ng,PV,cond_true]
  exact J5 rfl rfl
def XC {α:Type} (k_:Bool→α) (m:na) (at_ n:Int):α:=
 let z0:Int:=nS ((len m.nK)*128)
 k_ (bif qM m then bif decide (0≤n) then bif decide (n≤z0) then bif decide (0≤at_) then decide (at_≤nS (z0 - n)) else false else false else false else false)
def within (m:na) (at_ n:Int):Bool:=XC id m at_ n
theorem nsy {α:Type} (k_:Bool→α) (m:na) (at_ n:Int):XC k_ m at_ n=k_ (within m at_ n):=by
 rfl
def Z2 {α:Type} (k_:Bool→α) (m:na) (at_ n:Int):α:=
 let z0:Int:=nS (128*(len m.nK))
 k_ (bif qM m then bif decide (0≤n) then bif decide (0≤at_) then bif decide (at_≤z0) then decide (n≤nS (z0 - at_)) else false else false else false else false)
theorem nmF {α:Type} (k_:Bool→α) (m:na) (at_ n:Int) (TS:ka na.ct m.enc) (Pj:G3 .i (.int at_)) (h_n:G3 .i (.int n)):Z2 k_ m at_ n=k_ (within m at_ n):=by
 have hn:=wy h_n
 have ha:=wy Pj
 unfold Z2 within XC
 refine congrArg k_ ?_
 show (bif qM m then _ else false)=(bif qM m then _ else false)
 cases hm:qM m
 ·rfl
 ·have Hc:=(nt9 (na.w9 TS) hm).2
  have e1:nS (128*(len m.nK))=128*(m.nK.length:Int):=by simp only[len];exact nJ (by omega) (by omega)
  have e2:nS ((len m.nK)*128)=128*(m.nK.length:Int):=by simp only[len];rw[nJ (by omega) (by omega)];omega
  simp only[e1,e2,cond_true]
  rw[Bool.eq_iff_iff]
  simp only[nv4,decide_eq_true_eq]
  constructor
  ·rintro ⟨h1,h2,h3,h4⟩
   rw[nJ (by omega) (by omega)] at h4
   refine⟨h1,by omega,h2, ?_⟩
   rw[nJ (by omega) (by omega)]
   omega
  ·rintro ⟨h1,h2,h3,h4⟩
   rw[nJ (by omega) (by omega)] at h4
   refine⟨h1,h3,by omega, ?_⟩
   rw[nJ (by omega) (by omega)]
   omega
theorem VO {l:Rows} {a n:Int} (hw:G3 (.sl [.str]) (.sl l)) (h:within (⟨l⟩:na) a n=true):pgs l∧l.length≤64∧0≤n∧0≤a∧a+n≤128*l.length:=by
 have h0:(bif qM (⟨l⟩:na) then bif decide (0≤n) then bif decide (n≤nS ((len l)*128)) then bif decide (0≤a) then decide (a≤nS (nS ((len l)*128) - n)) else false else false else false else false)=true:=h
 simp only[nv4,decide_eq_true_eq] at h0
 obtain⟨h1,h2,h3,h4,h5⟩:=h0
 obtain⟨p1,p2⟩:=nt9 hw h1
 have e:nS ((len l)*128)=128*(l.length:Int):=by simp only[len];rw[nJ (by omega) (by omega)];omega
 rw[e] at h3 h5
 rw[nJ (by omega) (by omega)] at h5
 exact⟨p1,p2,h2,h4,by omega⟩
theorem nvX {l:Rows} {a n:Nat} (hp:pgs l) (hl:l.length≤64) (h:a+n≤128*l.length):within (⟨l⟩:na) (a:Int) (n:Int)=true:=by
 have e:nS ((len l)*128)=128*(l.length:Int):=by simp only[len];rw[nJ (by omega) (by omega)];omega
 have h0:(bif qM (⟨l⟩:na) then bif decide (0≤(n:Int)) then bif decide ((n:Int)≤nS ((len l)*128)) then bif decide (0≤(a:Int)) then decide ((a:Int)≤nS (nS ((len l)*128) - (n:Int))) else false else false else false else false)=true:=by
  simp only[nv4,decide_eq_true_eq]
  refine⟨nw5 hp hl,by omega,by rw[e];omega,by omega, ?_⟩
  rw[e,nJ (by omega) (by omega)]
  omega
 exact h0
def nas (p:Bytes) (k:Nat) (s:Bytes):Bytes:=p.take k++(s.take (128 - k)++p.drop (k+min s.length (128 - k)))
def Rk (l:Rows) (a:Nat) (s:Bytes):Rows:=l.set (a / 128) [.str (nas (rS (nth l (a / 128)) 0) (a % 128) s)]
def nmT:Nat→Nat→Bytes→Rows→Rows
 | 0,_,_,l=>l
 | m+1,a,s,l=>bif decide (0<s.length) then nmT m (a+min s.length (128 - a % 128)) (s.drop (min s.length (128 - a % 128))) (Rk l a s) else l
theorem nvj {p:Bytes} {k:Nat} {s:Bytes} (h:p.length=128) (hk:k≤128):(nas p k s).length=128:=by
 simp only[nas,List.length_append,List.length_take,List.length_drop]
 omega
theorem nic {l:Rows} {a:Nat} {s:Bytes} (h:pgs l) (ha:a / 128<l.length):pgs (Rk l a s)∧(Rk l a s).length=l.length:=by
 refine⟨fun i hi=> ?_,by simp [Rk]⟩
 unfold Rk at hi ⊢
 rw[List.length_set] at hi
 rw[nwE l (a / 128) i _ ha]
 by_cases he:i=a / 128
 ·rw[if_pos he]
  obtain⟨p,hp,h2⟩:=h (a / 128) ha
  refine⟨_,rfl, ?_⟩
  rw[hp]
  exact nvj h2 (by omega)
 ·rw[if_neg he]
  exact h i hi
theorem nuZ:∀(m a:Nat) (s:Bytes) (l:Rows),pgs l→a+s.length≤128*l.length→pgs (nmT m a s l)∧(nmT m a s l).length=l.length
 | 0,_,_,_,h,_=>⟨h,rfl⟩
 | m+1,a,s,l,h,ha=>by
  unfold nmT
  by_cases hs:0<s.length
  ·rw[decide_eq_true hs,cond_true]
   have h1:=nic (a:=a) (s:=s) h (by omega)
   have h2:=nuZ m (a+min s.length (128 - a % 128)) (s.drop (min s.length (128 - a % 128))) (Rk l a s) h1.1 (by rw[h1.2,List.length_drop];omega)
   exact⟨h2.1,h2.2.trans h1.2⟩
  ·rw[decide_eq_false hs,cond_false]
   exact⟨h,rfl⟩
def uD (k_:na→Bool→α) (oL:Int→Bytes→Rows→α) (sD:Int) (ub:Bytes) (oz:Rows):α:=
 let z0:Bool:=Ec (Ec true (idx (nS (Int.tdiv sD 128)) oz)) (inl (Int.toNat (nS (Int.tdiv sD 128))) oz)
 let z1:List DC:=nth oz (Int.toNat (nS (Int.tdiv sD 128)))
 let z2:Rows:=ofStr (rS z1 0)
 let z3:Int:=cpN ub z2 (Int.toNat (Int.tmod sD 128))
 bif decide (0<len ub) then
  bif z0 then
   bif Ec (Ec true ((okL z2 (Int.tmod sD 128)) && (decide (0<List.length z2)))) (decide (Int.toNat (Int.tmod sD 128)≤List.length z2)) then
    bif z0 then
     bif Ec true (okL ub z3) then
      oL (nS (sD+z3)) (ncD ub z3) (List.set oz (Int.toNat (nS (Int.tdiv sD 128))) (bQ z1 0 [.str (toStr (cpR ub z2 (Int.toNat (Int.tmod sD 128))))]))
     else kd
    else kd
   else kd
  else kd
 else k_ (⟨oz⟩:na) true
def wC (k_:na→Bool→α) (N m_:Nat):Int→Bytes→Rows→α:=
 Nat.rec (motive:=fun _=>Int→Bytes→Rows→α) (fun _ _ _=>kd) (fun _ oL=>uD kd k_ oL) m_
theorem Ql (k_:na→Bool→α) (N m_:Nat):wC kd k_ N (m_+1)=uD kd k_ (wC kd k_ N m_):=rfl
def Oz (k_:na→Bool→α) (l0:Int→Bytes→Rows→α) (m:na) (at_:Int) (s:Bytes):α:=
 bif Ec true (s_ m) then
  bif !(within m at_ (len s)) then k_ (oB m) false
  else l0 at_ s ((oB m).nK)
 else kd
def Ue (k_:na→Bool→α) (N:Nat) (m:na) (at_:Int) (s:Bytes):α:=Oz kd k_ (wC kd k_ N N) m at_ s
def sV (m:na) (at_:Int) (s:Bytes):Bool:=sm m.nK
def qY (m:na) (at_:Int) (s:Bytes):na×Bool:=bif !(within m at_ (len s)) then (m,false) else (⟨nmT s.length at_.toNat s m.nK⟩,true)
theorem ntA (a b:Rows):toStr (a++b)=toStr a++toStr b:=by simp [toStr]
theorem nve (s:Bytes) (n:Nat):(ofStr s).take n=ofStr (s.take n):=by simp [ofStr,List.map_take]
theorem nvd (s:Bytes) (n:Nat):(ofStr s).drop n=ofStr (s.drop n):=by simp [ofStr,List.map_drop]
theorem nv7 {p s:Bytes} {k:Nat} (h:p.length=128):toStr (cpR s (ofStr p) k)=nas p k s:=by
 unfold cpR nas
 rw[t_,h,ntA,ntA,nve,nvd,ze,ze,ze]
theorem ng0 (k_:na→Bool→α) (m:na) (at_:Int) (s:Bytes) (TS:ka na.ct m.enc) (aJ:sV m at_ s=true):∃N,Ue kd k_ N m at_ s=k_ (qY m at_ s).1 (qY m at_ s).2:=by
 have hp0:G3 (.sl [.str]) (.sl m.nK):=na.w9 TS
 have Jc:s_ m=true:=aJ
 refine⟨s.length+1, ?_⟩
 unfold Ue Oz qY
 rw[show oB m=m from rfl]
 simp only[Jc,ng,cond_true]
 cases hw:within m at_ (len s)
 ·rfl
 ·obtain⟨p1,p2,p3,p4,p5⟩:=VO hp0 hw
  obtain⟨a,rfl⟩:=Int.eq_ofNat_of_zero_le p4
  simp only[Bool.not_true,cond_false,Int.toNat_natCast]
  have key:∀(q n a:Nat) (s:Bytes) (l:Rows),s.length≤q→q<n→pgs l→l.length≤64→a+s.length≤128*l.length→wC kd k_ (s.length+1) n (a:Int) s l=k_ (⟨nmT q a s l⟩:na) true:=by
   intro q
   induction q with
   | zero=>
    intro n a s l h1 h2 h3 h4 h5
    obtain⟨n,rfl⟩:∃q,n=q+1:=⟨n - 1,by omega⟩
    have:s=[]:=List.length_eq_zero_iff.1 (by omega)
    subst this
    rw[Ql]
    simp only[uD,show decide (0<len ([]:Bytes))=false by decide,cond_false,nmT]
   | succ q ih=>
    intro n a s l h1 h2 h3 h4 h5
    obtain⟨n,rfl⟩:∃q,n=q+1:=⟨n - 1,by omega⟩
    rw[Ql]
    by_cases hs:0<s.length
    ·have hd:decide (0<len s)=true:=decide_eq_true (by simp only[len];omega)
     have hpg:a / 128<l.length:=by omega
     obtain⟨p,e1,e2⟩:=h3 (a / 128) hpg
     have w1:nS (((a / 128:Nat):Int))=((a / 128:Nat):Int):=nJ (by omega) (by omega)
     have c1:cpN s (ofStr p) (a % 128)=((min s.length (128 - a % 128):Nat):Int):=by unfold cpN;rw[t_,e2]
     have w2:nS ((a:Int)+((min s.length (128 - a % 128):Nat):Int))=((a+min s.length (128 - a % 128):Nat):Int):=by rw[nJ (by omega) (by omega)];omega
     have g1:okL (ofStr p) (((a % 128:Nat)):Int)=true:=by simp only[okL,t_,e2,Bool.and_eq_true,decide_eq_true_eq];omega
     have g2:decide (0<List.length (ofStr p))=true:=decide_eq_true (by rw[t_];omega)
     have g3:decide (a % 128≤List.length (ofStr p))=true:=decide_eq_true (by rw[t_];omega)
     have g4:okL s ((min s.length (128 - a % 128):Nat):Int)=true:=by simp only[okL,Bool.and_eq_true,decide_eq_true_eq];omega
     have g5:ncD s ((min s.length (128 - a % 128):Nat):Int)=s.drop (min s.length (128 - a % 128)):=by simp [ncD]
     have st:=nic (a:=a) (s:=s) h3 hpg
     have this:=ih n (a+min s.length (128 - a % 128)) (s.drop (min s.length (128 - a % 128))) (Rk l a s) (by rw[List.length_drop];omega) (by omega) st.1 (by rw[st.2];exact h4) (by rw[st.2,List.length_drop];omega)
     have e5:Rk l a s=l.set (a / 128) [.str (nas p (a % 128) s)]:=by unfold Rk;rw[e1];rfl
     unfold nmT
     rw[decide_eq_true hs,cond_true]
     rw[e5] at this ⊢
     simp only[uD,hd,nko,nkp,w1,n9 hpg,sF hpg,Int.toNat_natCast,e1,nd3,c1,w2,g1,g2,g3,g4,g5,nv7 e2,nao,Bool.and_self,ng,nv,cond_true]
     exact this
    ·have:s=[]:=List.length_eq_zero_iff.1 (by omega)
     subst this
     simp only[uD,show decide (0<len ([]:Bytes))=false by decide,cond_false]
     rfl
  exact key s.length (s.length+1) a s m.nK (Nat.le_refl _) (by omega) p1 p2 (by simp only[len] at p5;omega)
theorem nr9 {l:Rows} (h:pgs l) (hl:l.length≤64):G3 (.sl [.str]) (.sl l):=by
 simp only[G3]
 refine⟨l,rfl,by rw[ne0];omega,fun r hr=> ?_⟩
 obtain⟨i,hi,rfl⟩:=List.getElem_of_mem hr
 obtain⟨p,hp,h2⟩:=h i hi
 have e:l[i]=nth l i:=by simp [nth,hi]
 rw[e,hp]
 exact nvm (by simp only[G3];exact⟨p,rfl,by rw[ne0];omega⟩) nup
theorem nau {l:Rows} {a:Int} {s:Bytes} (h:pgs l) (hl:l.length≤64):pgs (qY (⟨l⟩:na) a s).1.nK∧(qY (⟨l⟩:na) a s).1.nK.length=l.length:=by
 unfold qY
 cases hw:within (⟨l⟩:na) a (len s)
 ·exact⟨h,rfl⟩
 ·obtain⟨_,_,p3,p4,p5⟩:=VO (nr9 h hl) hw
  exact nuZ s.length a.toNat s l h (by simp only[len] at p5;omega)
def TN (Q:Nat→Prop):Rows→Nat→Prop
 | [],n=>n=0
 | r::rs,n=>∃p k:Nat,r=[.int (p:Int),.int (k:Int)]∧1≤k∧k≤n∧p % 128+k≤128∧Q (p / 128)∧TN Q rs (n - k)
def no2 (nc:Rows) (domain:Int) (write:Bool) (ntu:Rows):Nat→Int→Int→Rows→Rows×Bool
 | 0,_,_,o=>(o,true)
 | m+1,a,n,o=>bif decide (0<n) then
   bif bif decide (place nc domain a write<0) then true else !(within (⟨ntu⟩:na) (place nc domain a write) (v9 n (nS (128 - Int.tmod a 128)))) then ([],false)
   else bif bif decide (nS (a+v9 n (nS (128 - Int.tmod a 128)))<0) then decide (0<nS (n - v9 n (nS (128 - Int.tmod a 128)))) else false then ([],false)
   else no2 nc domain write ntu m (nS (a+v9 n (nS (128 - Int.tmod a 128)))) (nS (n - v9 n (nS (128 - Int.tmod a 128)))) (o++[[.int (place nc domain a write),.int (v9 n (nS (128 - Int.tmod a 128)))]])
  else (o,true)
theorem nrn {a n:Int} (ha:0≤a) (hn:0<n) (h4:n≤4096):1≤v9 n (nS (128 - Int.tmod a 128))∧v9 n (nS (128 - Int.tmod a 128))≤n∧Int.tmod a 128+v9 n (nS (128 - Int.tmod a 128))≤128∧nS (n - v9 n (nS (128 - Int.tmod a 128)))=n - v9 n (nS (128 - Int.tmod a 128)):=by
 have r:=nkq (x:=a) (m:=128) ha (by omega)
 rw[nJ (n:=128 - Int.tmod a 128) (by omega) (by omega)]
 unfold v9
 split
 ·refine⟨by omega,by omega,by omega,nJ (by omega) (by omega)⟩
 ·refine⟨by omega,by omega,by omega,nJ (by omega) (by omega)⟩
def sM (nc:Rows) (m:na) (domain at_ n:Int) (write:Bool):Rows×Bool:=
 bif bif !(pO nc) then true else bif !(qM m) then true else !(nj n 0 4096) then ([],false)
 else bif n==0 then ([],true)
 else bif decide (at_<0) then ([],false)
 else no2 nc domain write m.nK (n.toNat+1) at_ n []
def PH (k_:Rows→Bool→α) (nc:Rows) (domain:Int) (write:Bool) (tg:Rows) (oL:Int→Int→Rows→α) (sD n_1:Int) (n7:Rows):α:=
 let z0:Int:=v9 n_1 (nS (128 - (Int.tmod sD 128)))
 let z1:Int:=nS (sD+z0)
 let z2:Int:=nS (n_1 - z0)
 bif decide (0<n_1) then
  bif bif decide (place nc domain sD write<0) then true else !(within (⟨tg⟩:na) (place nc domain sD write) z0) then k_ [] false
  else bif Ec true (qS 16 n7 ([[.int (place nc domain sD write),.int z0]])) then
    bif bif decide (z1<0) then decide (0<z2) else false then k_ [] false
    else oL z1 z2 (n7++([[.int (place nc domain sD write),.int z0]]))
   else kd
 else k_ n7 true
def PG (k_:Rows→Bool→α) (N:Nat) (nc:Rows) (domain:Int) (write:Bool) (tg:Rows) (m_:Nat):Int→Int→Rows→α:=
 Nat.rec (motive:=fun _=>Int→Int→Rows→α) (fun _ _ _=>kd) (fun _ oL=>PH kd k_ nc domain write tg oL) m_
theorem nkY (k_:Rows→Bool→α) (N:Nat) (nc:Rows) (domain:Int) (write:Bool) (tg:Rows) (m_:Nat):PG kd k_ N nc domain write tg (m_+1)=PH kd k_ nc domain write tg (PG kd k_ N nc domain write tg m_):=rfl
def Xx {α:Type} (kd:α) (k_:Rows→Bool→α) (l0:Rows→Int→Int→Rows→α) (nc:Rows) (m:na) (domain at_ n:Int) (write:Bool):α:=
 bif bif !(pO nc) then true else bif !(qM m) then true else !(nj n 0 4096) then k_ [] false
 else bif n==0 then k_ [] true
 else bif decide (at_<0) then k_ [] false
 else l0 m.nK at_ n []
def nf1 (k_:Rows→Bool→α) (N:Nat) (nc:Rows) (m:na) (domain at_ n:Int) (write:Bool):α:=Xx kd k_ (fun tg=>PG kd k_ N nc domain write tg N) nc m domain at_ n write
theorem nst (k_:Rows→Bool→α) (nc:Rows) (m:na) (domain at_ n:Int) (write:Bool) (Pj:G3 .i (.int at_)):∃N,nf1 kd k_ N nc m domain at_ n write=k_ (sM nc m domain at_ n write).1 (sM nc m domain at_ n write).2:=by
 refine⟨n.toNat+2, ?_⟩
 unfold nf1 Xx sM
 refine qP (K:=fun r:Rows×Bool=>k_ r.1 r.2) (fun _=>rfl) (fun hg=>qP (K:=fun r:Rows×Bool=>k_ r.1 r.2) (fun _=>rfl) (fun Hv=>qP (K:=fun r:Rows×Bool=>k_ r.1 r.2) (fun _=>rfl) (fun ha=> ?_)))
 have hb:0≤n∧n≤4096:=by
  cases hc:nj n 0 4096
  ·rw[hc] at hg
   cases h1:pO nc<;>cases h2:qM m<;>rw[h1,h2] at hg<;>cases hg
  ·exact pf.1 hc
 have ha:=of_decide_eq_false ha
 have FV:=wy Pj
 have key:∀(q N':Nat) (a n:Int) (o:Rows),n<q→q≤N'→0≤n→n≤4096→a≤9223372036854775807→(0<n→0≤a)→o.length+n.toNat≤5000→∀M,PG kd k_ M nc domain write m.nK N' a n o=k_ (no2 nc domain write m.nK q a n o).1 (no2 nc domain write m.nK q a n o).2:=by
  intro q
  induction q with
  | zero=>intro N' a n o h1 h2 h3;omega
  | succ q ih=>
   intro N' a n o h1 h2 h3 h4 h7 h5 h6 M
   obtain⟨N',rfl⟩:∃p,N'=p+1:=⟨N' - 1,by omega⟩
   rw[nkY]
   by_cases hn:0<n
   ·obtain⟨r1,r2,r3,r4⟩:=nrn (h5 hn) hn h4
    have hr:∀x:List DC,qS 16 o [x]=true:=fun x=>NK (by simp only[List.length_cons,List.length_nil];omega) (by omega)
    unfold no2
    simp only[PH,decide_eq_true hn,hr,ng,cond_true]
    refine qP (K:=fun r:Rows×Bool=>k_ r.1 r.2) (fun _=>rfl) (fun _=>qP (K:=fun r:Rows×Bool=>k_ r.1 r.2) (fun _=>rfl) (fun hov=> ?_))
    rw[r4] at hov ⊢
    refine ih N' _ _ _ (by omega) (by omega) (by omega) (by omega) (nwr _) (fun hp=> ?_) (by simp only[List.length_append,List.length_cons,List.length_nil];omega) M
    rw[decide_eq_true hp] at hov
    have hov:decide (nS (a+v9 n (nS (128 - Int.tmod a 128)))<0)=false:=by
     cases hd:decide (nS (a+v9 n (nS (128 - Int.tmod a 128)))<0)
     ·rfl
     ·rw[hd] at hov;cases hov
    have:=of_decide_eq_false hov
    omega
   ·unfold no2
    simp only[PH,decide_eq_false hn,cond_false]
 exact key (n.toNat+1) (n.toNat+2) at_ n [] (by omega) (by omega) hb.1 hb.2 FV.2 (fun _=>by omega) (by simp only[List.length_nil];omega) _
theorem TN.len {Q:Nat→Prop} :∀ {l:Rows} {n:Nat},TN Q l n→l.length≤n
 | [],_,_=>Nat.zero_le _
 | r::rs,n,⟨p,k,_,h1,h2,_,_,h3⟩=>by
  have:=h3.len
  simp only[List.length_cons]
  omega
theorem TN.imp {Q Q':Nat→Prop} (h:∀i,Q i→Q' i):∀ {l:Rows} {n:Nat},TN Q l n→TN Q' l n
 | [],_,h0=>h0
 | r::rs,n,⟨p,k,e,h1,h2,h3,h4,h5⟩=>⟨p,k,e,h1,h2,h3,h _ h4,h5.imp h⟩
theorem nuM {nc:Rows} (hM:pO nc=true) {domain a:Int} {write:Bool} (ha:0≤a):place nc domain a write<0∨∃i:Nat,i<nc.length∧rI (nth nc i) 0=domain∧0≤rI (nth nc i) 2∧rI (nth nc i) 2≤63∧
  place nc domain a write=rI (nth nc i) 2*128+Int.tmod a 128:=by
 unfold place
 rw[decide_eq_false (show ¬a<0 by omega),cond_false]
 rcases nrp nc domain a with h | ⟨i,h1,h2,h3⟩
 ·rw[decide_eq_true h]
  exact .inl (show (-1:Int)<0 by decide)
 ·rw[h2,Int.toNat_natCast]
  cases (bif decide ((i:Int)<0) then true else bif write then !(rB (nth nc i) 3) else false)
  ·have hb:=(TM hM).2 (nth nc i) (tn h1)
   have hp:nj (rI (nth nc i) 2) 0 63=true:=by
    unfold xq at hb
    cases h4:nj (rI (nth nc i) 2) 0 63
    ·rw[h4] at hb
     revert hb
     cases nj (rI (nth nc i) 0) 0 7<;>cases nj (rI (nth nc i) 1) 0 1023<;>simp
    ·rfl
   have hp:=pf.1 hp
   have r:=nkq (x:=a) (m:=128) ha (by omega)
   refine .inr ⟨i,h1,h3,hp.1,hp.2, ?_⟩
   rw[cond_false,nJ (n:=rI (nth nc i) 2*128) (by omega) (by omega),nJ (by omega) (by omega)]
  ·exact .inl (show (-1:Int)<0 by decide)
theorem ntw {nc ntu:Rows} (hM:pO nc=true) {domain:Int} {write:Bool} :∀(q:Nat) (a n:Int) (o:Rows),n<q→0≤n→n≤4096→(0<n→0≤a)→(no2 nc domain write ntu q a n o).2=true→
  ∃rs,(no2 nc domain write ntu q a n o).1=o++rs∧TN (fun p=>∃i:Nat,i<nc.length∧rI (nth nc i) 0=domain∧rI (nth nc i) 2=(p:Int)) rs n.toNat
 | 0,a,n,o,h1,h2,_,_,_=>by omega
 | q+1,a,n,o,h1,h2,h3,h4,h5=>by
  unfold no2 at h5 ⊢
  by_cases hn:0<n
  ·rw[decide_eq_true hn,cond_true] at h5 ⊢
   have ha:=h4 hn
   obtain⟨r1,r2,r3,r4⟩:=nrn ha hn h3
   cases hc:(bif decide (place nc domain a write<0) then true else !(within (⟨ntu⟩:na) (place nc domain a write) (v9 n (nS (128 - Int.tmod a 128)))))
   ·rw[hc,cond_false] at h5
    rw[cond_false]
    cases hov:(bif decide (nS (a+v9 n (nS (128 - Int.tmod a 128)))<0) then decide (0<nS (n - v9 n (nS (128 - Int.tmod a 128)))) else false)
    ·rw[hov,cond_false] at h5
     rw[cond_false]
     rw[r4] at h5 hov ⊢
     obtain⟨rs,e1,e2⟩:=ntw hM q _ _ _ (by omega) (by omega) (by omega) (fun hp=>by
      rw[decide_eq_true hp] at hov
      have hov:decide (nS (a+v9 n (nS (128 - Int.tmod a 128)))<0)=false:=by
       cases hd:decide (nS (a+v9 n (nS (128 - Int.tmod a 128)))<0)
       ·rfl
       ·rw[hd] at hov;cases hov
      have:=of_decide_eq_false hov
      omega) h5
     refine⟨[.int (place nc domain a write),.int (v9 n (nS (128 - Int.tmod a 128)))]::rs,by rw[e1,List.append_assoc];rfl, ?_⟩
     rcases nuM hM (domain:=domain) (write:=write) ha with nxn | ⟨i,i1,i2,i3,i4,i5⟩
     ·rw[decide_eq_true nxn] at hc
      cases hc
     ·have r:=nkq (x:=a) (m:=128) ha (by omega)
      have hdiv:(place nc domain a write).toNat / 128=(rI (nth nc i) 2).toNat∧(place nc domain a write).toNat % 128=(Int.tmod a 128).toNat:=by
       rw[i5]
       omega
      refine⟨(place nc domain a write).toNat,(v9 n (nS (128 - Int.tmod a 128))).toNat, ?_,by omega,by omega,by rw[hdiv.2];omega,⟨i,i1,i2,by rw[hdiv.1];omega⟩, ?_⟩
      ·rw[Int.toNat_of_nonneg (by rw[i5];omega),Int.toNat_of_nonneg (by omega)]
      ·have:(n - v9 n (nS (128 - Int.tmod a 128))).toNat=n.toNat - (v9 n (nS (128 - Int.tmod a 128))).toNat:=by omega
       rw[←this]
       exact e2
    ·rw[hov] at h5
     cases h5
   ·rw[hc] at h5
    cases h5
  ·rw[decide_eq_false hn,cond_false] at h5 ⊢
   refine⟨[],by simp, ?_⟩
   show n.toNat=0
   omega
theorem nwl {nc:Rows} {m:na} {domain at_ n:Int} {write:Bool} (hw:G3 (.sl [.str]) (.sl m.nK)) (h:(sM nc m domain at_ n write).2=true):
  pgs m.nK∧m.nK.length≤64∧TN (fun p=>∃i:Nat,i<nc.length∧rI (nth nc i) 0=domain∧rI (nth nc i) 2=(p:Int)) (sM nc m domain at_ n write).1 n.toNat∧n≤4096:=by
 unfold sM at h ⊢
 cases hM:pO nc
 ·rw[hM] at h;cases h
 cases hm:qM m
 ·rw[hM,hm] at h;cases h
 cases hb:nj n 0 4096
 ·rw[hM,hm,hb] at h;cases h
 have hb:=pf.1 hb
 obtain⟨p1,p2⟩:=nt9 hw hm
 rw[hM,hm,show nj n 0 4096=true from pf.2 hb] at h
 simp only[Bool.not_true,cond_false] at h ⊢
 refine⟨p1,p2, ?_,hb.2⟩
 by_cases h0:n=0
 ·subst h0
  exact rfl
 ·rw[show (n==0)=false by simpa using h0,cond_false] at h ⊢
  by_cases ha:at_<0
  ·rw[decide_eq_true ha] at h;cases h
  ·rw[decide_eq_false ha,cond_false] at h ⊢
   obtain⟨rs,e1,e2⟩:=ntw hM (n.toNat+1) at_ n [] (by omega) hb.1 hb.2 (fun _=>by omega) h
   rw[e1]
   exact e2
theorem WZ {nc:Rows} {m:na} {domain at_ n:Int} {write:Bool} (hw:G3 (.sl [.str]) (.sl m.nK)) (h:(sM nc m domain at_ n write).2=true):
  pgs m.nK∧m.nK.length≤64∧TN (fun _=>True) (sM nc m domain at_ n write).1 n.toNat∧(sM nc m domain at_ n write).1.length≤5000:=by
 obtain⟨a,b,c,d⟩:=nwl hw h
 have:=c.len
 exact⟨a,b,c.imp (fun _ _=>trivial),by omega⟩
def ns8:Rows→Bytes→Rows→Rows
 | [],_,l=>l
 | r::rs,s,l=>ns8 rs (s.drop (Int.toNat (rI r 1))) (qY (⟨l⟩:na) (rI r 0) (s.take (Int.toNat (rI r 1)))).1.nK
def Wl (k_:na→Bool→α) (x:Int) (oO:Rows) (oL:Bytes→Int→Rows→α) (ub:Bytes) (oA:Int) (oz:Rows):α:=
 let z0:Bytes:=nap ub (rI (nth oO (Int.toNat oA)) 1)
 bif decide (oA<x) then
  bif Ec (Ec true (idx oA oO)) (inl (Int.toNat oA) oO) then
   bif Ec (Ec true (okH ub (rI (nth oO (Int.toNat oA)) 1))) (sV (⟨oz⟩:na) (rI (nth oO (Int.toNat oA)) 0) z0) then
    bif Ec true (okL ub (rI (nth oO (Int.toNat oA)) 1)) then
     oL (ncD ub (rI (nth oO (Int.toNat oA)) 1)) (nS (oA+1)) (((qY (⟨oz⟩:na) (rI (nth oO (Int.toNat oA)) 0) z0).1).nK)
    else kd
   else kd
  else kd
 else k_ (⟨oz⟩:na) true
def Wk (k_:na→Bool→α) (N:Nat) (x:Int) (oO:Rows) (m_:Nat):Bytes→Int→Rows→α:=
 Nat.rec (motive:=fun _=>Bytes→Int→Rows→α) (fun _ _ _=>kd) (fun _ oL=>Wl kd k_ x oO oL) m_
theorem nfU (k_:na→Bool→α) (N:Nat) (x:Int) (oO:Rows) (m_:Nat):Wk kd k_ N x oO (m_+1)=Wl kd k_ x oO (Wk kd k_ N x oO m_):=rfl
def ng_ (k_:na→Bool→α) (l0:Int→Rows→Bytes→Int→Rows→α) (nc:Rows) (m:na) (domain at_:Int) (s:Bytes) (write:Bool):α:=
 let z0:Rows×Bool:=sM nc m domain at_ (len s) write
 bif Ec true (s_ m) then
  bif !z0.2 then k_ (oB m) false
  else l0 (len z0.1) z0.1 s 0 ((oB m).nK)
 else kd
def nqt (k_:na→Bool→α) (N:Nat) (nc:Rows) (m:na) (domain at_:Int) (s:Bytes) (write:Bool):α:=ng_ kd k_ (fun x oO=>Wk kd k_ N x oO N) nc m domain at_ s write
def nt_ (nc:Rows) (m:na) (domain at_:Int) (s:Bytes) (write:Bool):Bool:=sm m.nK
def put (nc:Rows) (m:na) (domain at_:Int) (s:Bytes) (write:Bool):na×Bool:=
 bif !(sM nc m domain at_ (len s) write).2 then (m,false) else (⟨ns8 (sM nc m domain at_ (len s) write).1 s m.nK⟩,true)
theorem nu7 (k_:na→Bool→α) (nc:Rows) (m:na) (domain at_:Int) (s:Bytes) (write:Bool) (TS:ka na.ct m.enc) (Nr:G3 .str (.str s)) (aJ:nt_ nc m domain at_ s write=true):∃N,nqt kd k_ N nc m domain at_ s write=k_ (put nc m domain at_ s write).1 (put nc m domain at_ s write).2:=by
 have hp0:G3 (.sl [.str]) (.sl m.nK):=na.w9 TS
 have Jc:s_ m=true:=aJ
 have Mt:=zf Nr
 refine⟨(sM nc m domain at_ (len s) write).1.length+1, ?_⟩
 unfold nqt ng_ put
 rw[show oB m=m from rfl]
 simp only[Jc,ng,cond_true]
 cases hr:(sM nc m domain at_ (len s) write).2
 ·rfl
 ·obtain⟨g1,g2,g3⟩:=WZ hp0 hr
  simp only[Bool.not_true,cond_false]
  generalize (sM nc m domain at_ (len s) write).1=R at g3 ⊢
  have key:∀(q n i:Nat) (s:Bytes) (l:Rows),i+q=R.length→q<n→TN (fun _=>True) (R.drop i) s.length→pgs l→l.length≤64→R.length≤5000→
    Wk kd k_ (R.length+1) (len R) R n s (i:Int) l=k_ (⟨ns8 (R.drop i) s l⟩:na) true:=by
   intro q
   induction q with
   | zero=>
    intro n i s l h1 h2 h3 h4 h5 h6
    obtain⟨n,rfl⟩:∃q,n=q+1:=⟨n - 1,by omega⟩
    rw[nfU,List.drop_eq_nil_of_le (by omega)]
    have hf:decide ((i:Int)<len R)=false:=decide_eq_false (by simp only[len];omega)
    simp only[Wl,hf,cond_false,ns8]
   | succ q ih=>
    intro n i s l h1 h2 h3 h4 h5 h6
    obtain⟨n,rfl⟩:∃q,n=q+1:=⟨n - 1,by omega⟩
    have hi:i<R.length:=by omega
    have e0:R[i]=nth R i:=by simp [nth,hi]
    rw[List.drop_eq_getElem_cons hi,e0] at h3 ⊢
    obtain⟨p,k,e1,k1,k2,k3,_,k4⟩:=h3
    rw[nfU]
    have w1:nS ((i:Int)+1)=((i+1:Nat):Int):=by rw[nJ (by omega) (by omega)];omega
    have x1:okH s (k:Int)=true:=by simp only[okH,Bool.and_eq_true,decide_eq_true_eq];omega
    have x2:okL s (k:Int)=true:=by simp only[okL,Bool.and_eq_true,decide_eq_true_eq];omega
    have x3:nap s (k:Int)=s.take k:=by simp [nap]
    have x4:ncD s (k:Int)=s.drop k:=by simp [ncD]
    have x5:∀a b,sV (⟨l⟩:na) a b=true:=fun a b=>by
     unfold sV sm
     exact decide_eq_true (by show l.length≤16777216;omega)
    have r1:rI [DC.int (p:Int),DC.int (k:Int)] 0=(p:Int):=rfl
    have r2:rI [DC.int (p:Int),DC.int (k:Int)] 1=(k:Int):=rfl
    have wp:=nau (a:=(p:Int)) (s:=s.take k) h4 h5
    have this:=ih n (i+1) (s.drop k) (qY (⟨l⟩:na) (p:Int) (s.take k)).1.nK (by omega) (by omega) (by rw[List.length_drop];exact k4) wp.1 (by rw[wp.2];exact h5) h6
    simp only[Wl,pL hi,n9 hi,sF hi,Int.toNat_natCast,e1,r1,r2,x1,x2,x3,x4,x5,w1,ng,nv,cond_true,ns8]
    exact this
  exact key R.length (R.length+1) 0 s m.nK (by omega) (by omega) (by have h:=g3.1;rw[show (len s).toNat=s.length by simp [len]] at h;exact h) g1 g2 g3.2
def naA (k_:na→Bool→α) (nc:Rows) (m:na) (domain at_:Int) (s:Bytes):α:=
 let z0:na×Bool:=put nc m domain at_ s true
 bif Ec true (nt_ nc m domain at_ s true) then
  k_ z0.1 z0.2
 else kd
def sT (nc:Rows) (m:na) (domain at_:Int) (s:Bytes):Bool:=sm m.nK
def rm (nc:Rows) (m:na) (domain at_:Int) (s:Bytes):na×Bool:=put nc m domain at_ s true
theorem nnm (k_:na→Bool→α) (nc:Rows) (m:na) (domain at_:Int) (s:Bytes) (aJ:sT nc m domain at_ s=true):naA kd k_ nc m domain at_ s=k_ (rm nc m domain at_ s).1 (rm nc m domain at_ s).2:=by
 have h:nt_ nc m domain at_ s true=true:=aJ
 unfold naA rm
 simp only[h,ng,cond_true]
theorem nne {l:Rows} (hp:pgs l) (hl:l.length≤64) {a n:Int} :within (⟨l⟩:na) a n=true↔0≤n∧0≤a∧a+n≤128*l.length:=by
 constructor
 ·intro h
  obtain⟨_,_,h1,h2,h3⟩:=VO (nr9 hp hl) h
  exact⟨h1,h2,h3⟩
 ·rintro ⟨h1,h2,h3⟩
  obtain⟨n,rfl⟩:=Int.eq_ofNat_of_zero_le h1
  obtain⟨a,rfl⟩:=Int.eq_ofNat_of_zero_le h2
  exact nvX hp hl (by omega)
theorem nuY {l:Rows} (hp:pgs l) (hl:l.length≤64) {p o k:Int} (h0:0≤p) (o0:0≤o) (k1:1≤k) (hk:o+k≤128):within (⟨l⟩:na) (p*128+o) k=within (⟨l⟩:na) (p*128) 128:=by
 rw[Bool.eq_iff_iff,nne hp hl,nne hp hl]
 omega
def nva (domain pr:Int) (write:Bool) (r:List DC):Bool:=bif (rI r 0)==domain then bif (rI r 1)==pr then bif rB r 3 then true else !write else false else false
def nvt (nc:Rows) (domain pr:Int) (write:Bool):Int:=findIdx (fun _ r=>nva domain pr write r) nc 0
def Oo (k_:Int→α) (nc:Rows) (domain pr:Int) (write:Bool) (oL:Int→α) (k:Int):α:=
 let z0:Bool:=(rI (nth nc (Int.toNat k)) 0)==domain
 let z1:Bool:=(rI (nth nc (Int.toNat k)) 1)==pr
 let z2:Bool:=Ec (Ec true (idx k nc)) (idx k nc)
 let z3:Bool:=Ec z2 (idx k nc)
 bif decide (k<len nc) then
  bif LV z0 (LV z1 (LV (rB (nth nc (Int.toNat k)) 3) z3 z3) z2) (Ec true (idx k nc)) then
   bif bif z0 then bif z1 then bif rB (nth nc (Int.toNat k)) 3 then true else !write else false else false then
    bif Ec true (idx k nc) then
     k_ (rI (nth nc (Int.toNat k)) 2)
    else kd
   else oL (nS (k+1))
  else kd
 else k_ (-1)
def On (k_:Int→α) (N:Nat) (nc:Rows) (domain pr:Int) (write:Bool) (m_:Nat):Int→α:=
 Nat.rec (motive:=fun _=>Int→α) (fun _=>kd) (fun _ oL=>Oo kd k_ nc domain pr write oL) m_
theorem Xa (k_:Int→α) (N:Nat) (nc:Rows) (domain pr:Int) (write:Bool) (m_:Nat):On kd k_ N nc domain pr write (m_+1)=Oo kd k_ nc domain pr write (On kd k_ N nc domain pr write m_):=rfl
def VI {α:Type} (kd:α) (k_ l0:Int→α) (nc:Rows) (domain pr:Int) (write:Bool):α:=
 l0 0
def neC (k_:Int→α) (N:Nat) (nc:Rows) (domain pr:Int) (write:Bool):α:=VI kd k_ (On kd k_ N nc domain pr write N) nc domain pr write
def wF (nc:Rows) (domain pr:Int) (write:Bool):Int:=bif decide (nvt nc domain pr write<0) then -1 else rI (nth nc (Int.toNat (nvt nc domain pr write))) 2
theorem nrW (k_:Int→α) (nc:Rows) (domain pr:Int) (write:Bool) (rF:G3 (.sl [.i,.i,.i,.bool]) (.sl nc)):∃N,neC kd k_ N nc domain pr write=k_ (wF nc domain pr write):=by
 obtain⟨hl,_⟩:=oS rF
 refine⟨nc.length+1, ?_⟩
 unfold neC VI wF
 refine (sJ nc (On kd k_ (nc.length+1) nc domain pr write) (fun i r c=>bif nva domain pr write r then k_ (bif decide ((i:Int)<0) then -1 else rI (nth nc (Int.toNat (i:Int))) 2) else c) (k_ (-1)) ?_ ?_).trans ?_
 ·intro n i h
  rw[Xa]
  have h0:decide ((i:Int)<0)=false:=decide_eq_false (by omega)
  simp only[Oo,pL h,n9 h,oE h hl,Int.toNat_natCast,ng,nv,PV,cond_true,h0,cond_false]
  rfl
 ·intro n
  rw[Xa]
  simp only[Oo,nX,cond_false]
 ·exact naf (fun _ r=>nva domain pr write r) (fun x=>k_ (bif decide (x<0) then -1 else rI (nth nc (Int.toNat x)) 2)) nc 0
theorem npN {l:Rows} (h:pO l=true) {i j:Nat} (hi:i<l.length) (hj:j<l.length) (h0:rI (nth l i) 0=rI (nth l j) 0) (h1:rI (nth l i) 1=rI (nth l j) 1):i=j:=by
 have key:∀i j:Nat,i<l.length→j<i→rI (nth l j) 0=rI (nth l i) 0→rI (nth l j) 1=rI (nth l i) 1→False:=by
  intro i j hi hj h0 h1
  unfold pO at h
  by_cases h9:96<len l
  ·simp [h9] at h
  simp only[decide_eq_false h9,cond_false] at h
  cases ha:rL (fun i r=>bif xq r then true else yN (fun j=>bif (rI (nth l j) 0)==(rI r 0) then (rI (nth l j) 1)==(rI r 1) else false) i 0) l 0
  ·have h2:=ntn ha i hi
   rw[Nat.zero_add] at h2
   cases hb:xq (nth l i)
   ·rw[hb,cond_false] at h2
    have h3:=nvo h2 j (Nat.zero_le _) (by omega)
    rw[h0,h1] at h3
    simp at h3
   ·rw[hb] at h2
    cases h2
  ·rw[ha] at h
   cases h
 rcases Nat.lt_trichotomy i j with h2 | h2 | h2
 ·exact (key j i hj h2 h0 h1).elim
 ·exact h2
 ·exact (key i j hi h2 h0.symm h1.symm).elim
theorem nvN {l:Rows} (hM:pO l=true) {d a:Int} {w:Bool} (ha:0≤a):place l d a w=bif decide (wF l d (nS (Int.tdiv a 128)) w<0) then -1 else nS (nS (wF l d (nS (Int.tdiv a 128)) w*128)+Int.tmod a 128):=by
 unfold place
 rw[decide_eq_false (show ¬a<0 by omega),cond_false]
 have hT:∀r,nva d (nS (Int.tdiv a 128)) w r=true↔(rI r 0=d∧rI r 1=nS (Int.tdiv a 128))∧(rB r 3=true∨w=false):=by
  intro r
  unfold nva
  by_cases h0:rI r 0=d
  ·by_cases h1:rI r 1=nS (Int.tdiv a 128)
   ·cases rB r 3<;>cases w<;>simp [h0,h1]
   ·simp [h0,h1]
  ·simp [h0]
 have ip:∀i,0≤rI (nth l i) 2∨¬i<l.length:=by
  intro i
  by_cases hi:i<l.length
  ·have hb:=(TM hM).2 (nth l i) (tn hi)
   unfold xq at hb
   cases h4:nj (rI (nth l i) 2) 0 63
   ·rw[h4] at hb
    revert hb
    cases nj (rI (nth l i) 0) 0 7<;>cases nj (rI (nth l i) 1) 0 1023<;>simp
   ·exact .inl (pf.1 h4).1
  ·exact .inr hi
 have hq:=Ph (fun _ r=>nva d (nS (Int.tdiv a 128)) w r) l 0
 have hp:=Ph (fun _ r=>bif (rI r 0)==d then (rI r 1)==(nS (Int.tdiv a 128)) else false) l 0
 have e1:nro l d a=findIdx (fun _ r=>bif (rI r 0)==d then (rI r 1)==(nS (Int.tdiv a 128)) else false) l 0:=rfl
 unfold wF nvt
 rw[e1]
 rcases hp with ⟨p1,p2⟩ | ⟨i,i1,i2,i3⟩
 ·rw[p1]
  rcases hq with ⟨q1,_⟩ | ⟨j,j1,_,j3⟩
  ·rw[q1];rfl
  ·have h2:=p2 j j1
   have h3:=((hT _).1 j3).1
   simp [h3.1,h3.2] at h2
 ·rw[i2]
  have hi3:rI (nth l i) 0=d∧rI (nth l i) 1=nS (Int.tdiv a 128):=by simpa [nv4] using i3
  simp only[Nat.zero_add,Int.toNat_natCast,decide_eq_false (show ¬((i:Int)<0) by omega),cond_false]
  rcases hq with ⟨q1,q2⟩ | ⟨j,j1,j2,j3⟩
  ·rw[q1]
   have h2:=q2 i i1
   have h3:¬(rB (nth l i) 3=true∨w=false):=fun h=>by
    rw[(hT _).2 ⟨hi3,h⟩] at h2
    cases h2
   rw[not_or] at h3
   cases w
   ·exact absurd rfl h3.2
   ·simp only[h3.1,cond_true,Bool.not_eq_true _ ▸ (by simpa using h3.1:rB (nth l i) 3=false),Bool.not_false]
    rfl
  ·have h3:=(hT _).1 j3
   have hij:i=j:=npN hM i1 j1 (hi3.1.trans h3.1.1.symm) (hi3.2.trans h3.1.2.symm)
   subst hij
   rw[j2]
   simp only[Nat.zero_add,Int.toNat_natCast,decide_eq_false (show ¬((i:Int)<0) by omega),cond_false]
   have hn:=(ip i).resolve_right (by omega)
   rw[decide_eq_false (show ¬rI (nth l i) 2<0 by omega),cond_false]
   have hc:(bif w then !(rB (nth l i) 3) else false)=false:=by
    rcases h3.2 with h4 | h4
    ·rw[h4];cases w<;>rfl
    ·rw[h4];rfl
   rw[hc,cond_false]
theorem nwC {l:Rows} (hM:pO l=true) (d v:Int) (w:Bool):wF l d v w= -1∨(0≤wF l d v w∧wF l d v w≤63):=by
 unfold wF nvt
 rcases Ph (fun _ r=>nva d v w r) l 0 with ⟨q1,_⟩ | ⟨j,j1,j2,j3⟩
 ·rw[q1];exact .inl rfl
 ·rw[j2]
  simp only[Nat.zero_add,Int.toNat_natCast,decide_eq_false (show ¬((j:Int)<0) by omega),cond_false]
  have hb:=(TM hM).2 (nth l j) (tn j1)
  unfold xq at hb
  cases h4:nj (rI (nth l j) 2) 0 63
  ·rw[h4] at hb
   revert hb
   cases nj (rI (nth l j) 0) 0 7<;>cases nj (rI (nth l j) 1) 0 1023<;>simp
  ·exact .inr (pf.1 h4)
def pF0 (r:List DC):List DC:=[.int (rI r 0)]
def pF1 (r:List DC):List DC:=[.int (rI r 1)]
theorem nt6 (f:List DC→List DC) {l:Rows} {i:Nat} (h:i<l.length):nth (l.map f) i=f (nth l i):=by
 simp [nth,List.getD_eq_getElem?_getD,h]
def w8 (k_:Rows→Rows→Bool→α) (nc:Rows) (domain:Int) (write:Bool) (tg:Rows) (oL:Int→Int→Rows→Rows→α) (sD n_1:Int) (starts qv:Rows):α:=
 let z0:Int:=bif decide (0≤sD) then wF nc domain (nS (Int.tdiv sD 128)) write else (-1)
 let z1:Int:=v9 n_1 (nS (128 - (Int.tmod sD 128)))
 bif decide (0<n_1) then
  bif bif decide (z0<0) then true else !(within (⟨tg⟩:na) (nS (z0*128)) 128) then k_ [] [] false
  else bif Ec true (qS 8 starts ([[.int (nS ((nS (z0*128))+(Int.tmod sD 128)))]])) then
    bif Ec true (qS 8 qv ([[.int z1]])) then
     oL (nS (sD+z1)) (nS (n_1 - z1)) (starts++([[.int (nS ((nS (z0*128))+(Int.tmod sD 128)))]])) (qv++([[.int z1]]))
    else kd
   else kd
 else k_ starts qv true
def Ni (k_:Rows→Rows→Bool→α) (N:Nat) (nc:Rows) (domain:Int) (write:Bool) (tg:Rows) (m_:Nat):Int→Int→Rows→Rows→α:=
 Nat.rec (motive:=fun _=>Int→Int→Rows→Rows→α) (fun _ _ _ _=>kd) (fun _ oL=>w8 kd k_ nc domain write tg oL) m_
theorem nib (k_:Rows→Rows→Bool→α) (N:Nat) (nc:Rows) (domain:Int) (write:Bool) (tg:Rows) (m_:Nat):Ni kd k_ N nc domain write tg (m_+1)=w8 kd k_ nc domain write tg (Ni kd k_ N nc domain write tg m_):=rfl
def SL {α:Type} (kd:α) (k_:Rows→Rows→Bool→α) (l0:Rows→Int→Int→Rows→Rows→α) (nc:Rows) (m:na) (domain at_ n:Int) (write:Bool):α:=
 bif bif !(pO nc) then true else bif !(qM m) then true else !(nj n 0 4096) then k_ [] [] false
 else l0 m.nK at_ n [] []
def ncv (k_:Rows→Rows→Bool→α) (N:Nat) (nc:Rows) (m:na) (domain at_ n:Int) (write:Bool):α:=SL kd k_ (fun tg=>Ni kd k_ N nc domain write tg N) nc m domain at_ n write
def y5 (nc:Rows) (m:na) (domain at_ n:Int) (write:Bool):Rows×Rows×Bool:=
 ((sM nc m domain at_ n write).1.map pF0,(sM nc m domain at_ n write).1.map pF1,(sM nc m domain at_ n write).2)
theorem npv (k_:Rows→Rows→Bool→α) (nc:Rows) (m:na) (domain at_ n:Int) (write:Bool) (TS:ka na.ct m.enc) (Pj:G3 .i (.int at_)):∃N,ncv kd k_ N nc m domain at_ n write=k_ (y5 nc m domain at_ n write).1 (y5 nc m domain at_ n write).2.1 (y5 nc m domain at_ n write).2.2:=by
 have hp0:G3 (.sl [.str]) (.sl m.nK):=na.w9 TS
 have FV:=wy Pj
 refine⟨n.toNat+2, ?_⟩
 unfold ncv SL y5 sM
 refine qP (K:=fun r:Rows×Bool=>k_ (r.1.map pF0) (r.1.map pF1) r.2) (fun _=>rfl) (fun hg=> ?_)
 have hM:pO nc=true:=by
  cases hM:pO nc
  ·rw[hM] at hg;cases hg
  ·rfl
 have hm:qM m=true:=by
  cases hm:qM m
  ·rw[hM,hm] at hg;cases hg
  ·rfl
 have hb:0≤n∧n≤4096:=by
  cases hc:nj n 0 4096
  ·rw[hM,hm,hc] at hg;cases hg
  ·exact pf.1 hc
 obtain⟨p1,p2⟩:=nt9 hp0 hm
 have key:∀(q N':Nat) (a n:Int) (o:Rows),n<q→q≤N'→0≤n→n≤4096→a≤9223372036854775807→o.length+n.toNat≤5000→∀M,Ni kd k_ M nc domain write m.nK N' a n (o.map pF0) (o.map pF1)=
   (fun r:Rows×Bool=>k_ (r.1.map pF0) (r.1.map pF1) r.2) (bif bif decide (a<0) then decide (0<n) else false then ([],false) else no2 nc domain write m.nK q a n o):=by
  intro q
  induction q with
  | zero=>intro N' a n o h1 h2 h3;omega
  | succ q ih=>
   intro N' a n o h1 h2 h3 h4 h7 h6 M
   obtain⟨N',rfl⟩:∃p,N'=p+1:=⟨N' - 1,by omega⟩
   rw[nib]
   by_cases hn:0<n
   ·by_cases ha:a<0
    ·simp only[w8,decide_eq_true hn,decide_eq_true ha,decide_eq_false (show ¬0≤a by omega),cond_true,cond_false,show decide ((-1:Int)<0)=true from rfl]
     rfl
    ·obtain⟨r1,r2,r3,r4⟩:=nrn (show 0≤a by omega) hn h4
     have tm:=nkq (x:=a) (m:=128) (by omega) (by omega)
     have hr:∀(l:Rows) (x:List DC),l.length≤5000→qS 8 l [x]=true:=fun l x hl=>NK (by simp only[List.length_cons,List.length_nil];omega) (by omega)
     have hlp:=nvN (d:=domain) (w:=write) hM (show 0≤a by omega)
     have fC:(bif decide (wF nc domain (nS (Int.tdiv a 128)) write<0) then true else !(within m (nS (wF nc domain (nS (Int.tdiv a 128)) write*128)) 128))=
       (bif decide (place nc domain a write<0) then true else !(within m (place nc domain a write) (v9 n (nS (128 - Int.tmod a 128))))):=by
      rw[hlp]
      rcases nwC hM domain (nS (Int.tdiv a 128)) write with h8 | ⟨h8,h9⟩
      ·rw[h8];rfl
      ·generalize wF nc domain (nS (Int.tdiv a 128)) write=P at h8 h9 ⊢
       rw[decide_eq_false (show ¬P<0 by omega),cond_false,cond_false,nJ (n:=P*128) (by omega) (by omega),nJ (n:=P*128+Int.tmod a 128) (by omega) (by omega),
        decide_eq_false (show ¬P*128+Int.tmod a 128<0 by omega),cond_false]
       rw[show within m (P*128+Int.tmod a 128) (v9 n (nS (128 - Int.tmod a 128)))=within m (P*128) 128 from nuY p1 p2 h8 tm.1 r1 (by omega)]
     have hlen:∀f:List DC→List DC,(o.map f).length≤5000:=fun f=>by rw[List.length_map];omega
     unfold no2
     simp only[w8,decide_eq_true hn,decide_eq_false ha,decide_eq_true (show 0≤a by omega),cond_true,cond_false,hr _ _ (hlen _),ng]
     have hM1:(⟨m.nK⟩:na)=m:=rfl
     rw[hM1,fC]
     refine qP (K:=fun r:Rows×Bool=>k_ (r.1.map pF0) (r.1.map pF1) r.2) (fun _=>rfl) (fun hc=> ?_)
     have KV:place nc domain a write=nS (nS (wF nc domain (nS (Int.tdiv a 128)) write*128)+Int.tmod a 128):=by
      rw[hlp]
      cases hd:decide (wF nc domain (nS (Int.tdiv a 128)) write<0)
      ·rfl
      ·rw[hlp,hd] at hc
       cases hc
     rw[←KV,r4]
     have e0:o.map pF0++[[DC.int (place nc domain a write)]]=(o++[[DC.int (place nc domain a write),DC.int (v9 n (nS (128 - Int.tmod a 128)))]]).map pF0:=by rw[List.map_append];rfl
     have e1:o.map pF1++[[DC.int (v9 n (nS (128 - Int.tmod a 128)))]]=(o++[[DC.int (place nc domain a write),DC.int (v9 n (nS (128 - Int.tmod a 128)))]]).map pF1:=by rw[List.map_append];rfl
     rw[e0,e1]
     exact ih N' _ _ _ (by omega) (by omega) (by omega) (by omega) (nwr _) (by simp only[List.length_append,List.length_cons,List.length_nil];omega) M
   ·have hz:(bif decide (a<0) then decide (0<n) else false)=false:=by rw[decide_eq_false hn];cases decide (a<0)<;>rfl
    rw[hz]
    unfold no2
    simp only[w8,decide_eq_false hn,cond_false]
 refine (key (n.toNat+1) (n.toNat+2) at_ n [] (by omega) (by omega) hb.1 hb.2 FV.2 (by simp only[List.length_nil];omega) _).trans ?_
 congr 1
 by_cases h0:n=0
 ·subst h0
  cases decide (at_<0)<;>rfl
 ·rw[show (n==0)=false by simpa using h0,cond_false,decide_eq_true (show 0<n by omega)]
  cases decide (at_<0)<;>rfl
def OM (l:Rows) (a n:Nat):Bytes:=((rS (nth l (a / 128)) 0).drop (a % 128)).take (min n (128 - a % 128))
def nmi:Nat→Nat→Nat→Rows→Bytes
 | 0,_,_,_=>[]
 | m+1,a,n,l=>bif decide (0<n) then OM l a n++nmi m (a+min n (128 - a % 128)) (n - min n (128 - a % 128)) l else []
def rq (m:na) (at_ n:Int):Bytes×Bool:=bif !(within m at_ n) then ([],false) else (nmi n.toNat at_.toNat n.toNat m.nK,true)
theorem nhO {l:Rows} (hp:pgs l) {a n:Nat} (h:a / 128<l.length):(OM l a n).length=min n (128 - a % 128):=by
 obtain⟨p,e1,e2⟩:=hp (a / 128) h
 unfold OM
 rw[e1,nd3,List.length_take,List.length_drop,e2]
 omega
theorem nuN:∀(q a n:Nat) (l:Rows),n≤q→pgs l→a+n≤128*l.length→(nmi q a n l).length=n
 | 0,a,n,l,h1,_,_=>by simp only[nmi,List.length_nil];omega
 | q+1,a,n,l,h1,hp,h2=>by
  unfold nmi
  by_cases hn:0<n
  ·rw[decide_eq_true hn,cond_true,List.length_append,nhO hp (by omega),nuN q _ _ l (by omega) hp (by omega)]
   omega
  ·rw[decide_eq_false hn,cond_false]
   simp only[List.length_nil];omega
theorem O4 {m:na} {a n:Int} (hw:G3 (.sl [.str]) (.sl m.nK)):(rq m a n).1.length≤8192∧(rq m a n).1.length≤n.toNat:=by
 unfold rq
 cases h:within m a n
 ·exact⟨Nat.zero_le _,Nat.zero_le _⟩
 ·obtain⟨p1,p2,p3,p4,p5⟩:=VO hw h
  simp only[Bool.not_true,cond_false]
  rw[nuN _ _ _ _ (Nat.le_refl _) p1 (by omega)]
  omega
def u_ (k_:Bytes→Bool→α) (n:Int) (tg:Rows) (oL:Int→Rows→α) (sD:Int) (n7:Rows):α:=
 let z0:Int:=v9 128 (nS ((nS ((Int.tmod sD 128)+n)) - (len n7)))
 let z1:Bytes:=nty (rS (nth tg (Int.toNat (nS (Int.tdiv sD 128)))) 0) (Int.tmod sD 128) z0
 bif decide (len n7<n) then
  bif Ec true (idx (nS (Int.tdiv sD 128)) tg) then
   bif Ec true (nvS (rS (nth tg (Int.toNat (nS (Int.tdiv sD 128)))) 0) (Int.tmod sD 128) z0) then
    bif Ec true (decide ((List.length n7+List.length z1)*1≤140737488355328) && decide (List.length n7+List.length z1≤9223372036854775807)) then
     oL (nS (sD+(len z1))) (n7++(ofStr z1))
    else kd
   else kd
  else kd
 else k_ (toStr n7) true
def xe (k_:Bytes→Bool→α) (N:Nat) (n:Int) (tg:Rows) (m_:Nat):Int→Rows→α:=
 Nat.rec (motive:=fun _=>Int→Rows→α) (fun _ _=>kd) (fun _ oL=>u_ kd k_ n tg oL) m_
theorem RU (k_:Bytes→Bool→α) (N:Nat) (n:Int) (tg:Rows) (m_:Nat):xe kd k_ N n tg (m_+1)=u_ kd k_ n tg (xe kd k_ N n tg m_):=rfl
def Pz (k_:Bytes→Bool→α) (l0:Rows→Int→Rows→α) (m:na) (at_ n:Int):α:=
 bif !(within m at_ n) then k_ [] false
 else bif Ec true (wW 1 0 n) then
   l0 m.nK at_ (List.replicate 0 ([.int 0]:List DC))
  else kd
def Wc (k_:Bytes→Bool→α) (N:Nat) (m:na) (at_ n:Int):α:=Pz kd k_ (fun tg=>xe kd k_ N n tg N) m at_ n
theorem niA (k_:Bytes→Bool→α) (m:na) (at_ n:Int) (TS:ka na.ct m.enc):∃N,Wc kd k_ N m at_ n=k_ (rq m at_ n).1 (rq m at_ n).2:=by
 have hp0:G3 (.sl [.str]) (.sl m.nK):=na.w9 TS
 refine⟨n.toNat+1, ?_⟩
 unfold Wc Pz rq
 cases hw:within m at_ n
 ·rfl
 ·obtain⟨p1,p2,p3,p4,p5⟩:=VO hp0 hw
  obtain⟨a,rfl⟩:=Int.eq_ofNat_of_zero_le p4
  obtain⟨n,rfl⟩:=Int.eq_ofNat_of_zero_le p3
  have hmk:wW 1 0 (n:Int)=true:=by simp only[wW,Bool.and_eq_true,decide_eq_true_eq,Int.toNat_natCast];omega
  simp only[Bool.not_true,cond_false,hmk,ng,cond_true,Int.toNat_natCast]
  have key:∀(q N' a r:Nat) (o:Bytes),r≤q→q<N'→o.length+r=n→a+r≤128*m.nK.length→∀M,xe kd k_ M (n:Int) m.nK N' (a:Int) (ofStr o)=k_ (o++nmi q a r m.nK) true:=by
   intro q
   induction q with
   | zero=>
    intro N' a r o h1 h2 h3 h4 M
    obtain⟨N',rfl⟩:∃q,N'=q+1:=⟨N' - 1,by omega⟩
    rw[RU]
    have hd:decide (len (ofStr o)<(n:Int))=false:=decide_eq_false (by simp only[len,t_];omega)
    simp only[u_,hd,cond_false,nmi,List.append_nil,ze]
   | succ q ih=>
    intro N' a r o h1 h2 h3 h4 M
    obtain⟨N',rfl⟩:∃q,N'=q+1:=⟨N' - 1,by omega⟩
    rw[RU]
    by_cases hr:0<r
    ·have hd:decide (len (ofStr o)<(n:Int))=true:=decide_eq_true (by simp only[len,t_];omega)
     have hpg:a / 128<m.nK.length:=by omega
     obtain⟨p,e1,e2⟩:=p1 (a / 128) hpg
     have w1:nS (((a / 128:Nat):Int))=((a / 128:Nat):Int):=nJ (by omega) (by omega)
     have c1:v9 128 (nS (nS (((a % 128:Nat):Int)+(n:Int)) - len (ofStr o)))=((a % 128+min r (128 - a % 128):Nat):Int):=by
      rw[nJ (n:=((a % 128:Nat):Int)+(n:Int)) (by omega) (by omega)]
      simp only[len,t_]
      rw[nJ (by omega) (by omega)]
      simp only[v9]
      split<;>omega
     have s1:nty p ((a % 128:Nat):Int) ((a % 128+min r (128 - a % 128):Nat):Int)=OM m.nK a r:=by
      unfold nty OM
      rw[e1,nd3,Int.toNat_natCast,Int.toNat_natCast,List.drop_take]
      congr 1
      omega
     have g1:nvS p ((a % 128:Nat):Int) ((a % 128+min r (128 - a % 128):Nat):Int)=true:=by simp only[nvS,Bool.and_eq_true,decide_eq_true_eq];omega
     have hl:=nhO p1 (n:=r) hpg
     have g2:(decide (((ofStr o).length+(OM m.nK a r).length)*1≤140737488355328) && decide ((ofStr o).length+(OM m.nK a r).length≤9223372036854775807))=true:=by simp only[t_,Bool.and_eq_true,decide_eq_true_eq];omega
     have w2:nS ((a:Int)+len (OM m.nK a r))=((a+min r (128 - a % 128):Nat):Int):=by simp only[len,hl];rw[nJ (by omega) (by omega)];omega
     have eo:ofStr o++ofStr (OM m.nK a r)=ofStr (o++OM m.nK a r):=by simp [ofStr]
     have this:=ih N' (a+min r (128 - a % 128)) (r - min r (128 - a % 128)) (o++OM m.nK a r) (by omega) (by omega) (by rw[List.length_append,hl];omega) (by omega) M
     unfold nmi
     rw[decide_eq_true hr,cond_true,←List.append_assoc]
     simp only[u_,hd,nko,nkp,w1,n9 hpg,Int.toNat_natCast,e1,nd3,c1,s1,g1,g2,w2,eo,ng,cond_true]
     exact this
    ·have hd:decide (len (ofStr o)<(n:Int))=false:=decide_eq_false (by simp only[len,t_];omega)
     unfold nmi
     simp only[u_,hd,decide_eq_false hr,cond_false,List.append_nil,ze]
  exact key n (n+1) a n [] (Nat.le_refl _) (by omega) (by simp) (by omega) _
def vl (k_:Bytes→Bool→α) (tg:Rows) (oL:Int→Int→Bytes→α) (sD n_1:Int) (n7:Bytes):α:=
 let z0:Int:=v9 n_1 (nS (128 - (Int.tmod sD 128)))
 let z1:Int:=nS ((Int.tmod sD 128)+z0)
 let z2:Bytes:=nty (rS (nth tg (Int.toNat (nS (Int.tdiv sD 128)))) 0) (Int.tmod sD 128) z1
 bif decide (0<n_1) then
  bif Ec (Ec (Ec true (idx (nS (Int.tdiv sD 128)) tg)) (nvS (rS (nth tg (Int.toNat (nS (Int.tdiv sD 128)))) 0) (Int.tmod sD 128) z1)) (oC n7 z2) then
   oL (nS (sD+z0)) (nS (n_1 - z0)) (n7++z2)
  else kd
 else k_ n7 true
def xx (k_:Bytes→Bool→α) (N:Nat) (tg:Rows) (m_:Nat):Int→Int→Bytes→α:=
 Nat.rec (motive:=fun _=>Int→Int→Bytes→α) (fun _ _ _=>kd) (fun _ oL=>vl kd k_ tg oL) m_
theorem R7 (k_:Bytes→Bool→α) (N:Nat) (tg:Rows) (m_:Nat):xx kd k_ N tg (m_+1)=vl kd k_ tg (xx kd k_ N tg m_):=rfl
def Qf {α:Type} (kd:α) (k_:Bytes→Bool→α) (l0:Rows→Int→Int→Bytes→α) (m:na) (at_ n:Int):α:=
 bif !(within m at_ n) then k_ [] false
 else l0 m.nK at_ n []
def W6 (k_:Bytes→Bool→α) (N:Nat) (m:na) (at_ n:Int):α:=Qf kd k_ (fun tg=>xx kd k_ N tg N) m at_ n
theorem nkd (k_:Bytes→Bool→α) (m:na) (at_ n:Int) (TS:ka na.ct m.enc):∃N,W6 kd k_ N m at_ n=k_ (rq m at_ n).1 (rq m at_ n).2:=by
 have hp0:G3 (.sl [.str]) (.sl m.nK):=na.w9 TS
 refine⟨n.toNat+1, ?_⟩
 unfold W6 Qf rq
 cases hw:within m at_ n
 ·rfl
 ·obtain⟨p1,p2,p3,p4,p5⟩:=VO hp0 hw
  obtain⟨a,rfl⟩:=Int.eq_ofNat_of_zero_le p4
  obtain⟨n,rfl⟩:=Int.eq_ofNat_of_zero_le p3
  simp only[Bool.not_true,cond_false,Int.toNat_natCast]
  have key:∀(q N' a r:Nat) (o:Bytes),r≤q→q<N'→o.length+r≤8192→a+r≤128*m.nK.length→∀M,xx kd k_ M m.nK N' (a:Int) (r:Int) o=k_ (o++nmi q a r m.nK) true:=by
   intro q
   induction q with
   | zero=>
    intro N' a r o h1 h2 h3 h4 M
    obtain⟨N',rfl⟩:∃q,N'=q+1:=⟨N' - 1,by omega⟩
    rw[R7]
    have hd:decide (0<(r:Int))=false:=decide_eq_false (by omega)
    simp only[vl,hd,cond_false,nmi,List.append_nil]
   | succ q ih=>
    intro N' a r o h1 h2 h3 h4 M
    obtain⟨N',rfl⟩:∃q,N'=q+1:=⟨N' - 1,by omega⟩
    rw[R7]
    by_cases hr:0<r
    ·have hd:decide (0<(r:Int))=true:=decide_eq_true (by omega)
     have hpg:a / 128<m.nK.length:=by omega
     obtain⟨p,e1,e2⟩:=p1 (a / 128) hpg
     have w1:nS (((a / 128:Nat):Int))=((a / 128:Nat):Int):=nJ (by omega) (by omega)
     have c1:v9 (r:Int) (nS (128 - ((a % 128:Nat):Int)))=((min r (128 - a % 128):Nat):Int):=by
      rw[nJ (by omega) (by omega)]
      simp only[v9]
      split<;>omega
     have c2:nS (((a % 128:Nat):Int)+((min r (128 - a % 128):Nat):Int))=((a % 128+min r (128 - a % 128):Nat):Int):=by rw[nJ (by omega) (by omega)];omega
     have s1:nty p ((a % 128:Nat):Int) ((a % 128+min r (128 - a % 128):Nat):Int)=OM m.nK a r:=by
      unfold nty OM
      rw[e1,nd3,Int.toNat_natCast,Int.toNat_natCast,List.drop_take]
      congr 1
      omega
     have g1:nvS p ((a % 128:Nat):Int) ((a % 128+min r (128 - a % 128):Nat):Int)=true:=by simp only[nvS,Bool.and_eq_true,decide_eq_true_eq];omega
     have hl:=nhO p1 (n:=r) hpg
     have g2:oC o (OM m.nK a r)=true:=Xm (by omega)
     have w2:nS ((a:Int)+((min r (128 - a % 128):Nat):Int))=((a+min r (128 - a % 128):Nat):Int):=by rw[nJ (by omega) (by omega)];omega
     have w3:nS ((r:Int) - ((min r (128 - a % 128):Nat):Int))=((r - min r (128 - a % 128):Nat):Int):=by rw[nJ (by omega) (by omega)];omega
     have this:=ih N' (a+min r (128 - a % 128)) (r - min r (128 - a % 128)) (o++OM m.nK a r) (by omega) (by omega) (by rw[List.length_append,hl];omega) (by omega) M
     unfold nmi
     rw[decide_eq_true hr,cond_true,←List.append_assoc]
     simp only[vl,hd,nko,nkp,w1,n9 hpg,Int.toNat_natCast,e1,nd3,c1,c2,s1,g1,g2,w2,w3,ng,cond_true]
     exact this
    ·have hd:decide (0<(r:Int))=false:=decide_eq_false (by omega)
     unfold nmi
     simp only[vl,hd,decide_eq_false hr,cond_false,List.append_nil]
  exact key n (n+1) a n [] (Nat.le_refl _) (by omega) (by simp;omega) (by omega) _
def NT (k_:Bytes→Bool→α) (x:Int) (tg oO:Rows) (oL:Bytes→Int→α) (n7:Bytes) (oA:Int):α:=
 let z0:Bytes:=(rq (⟨tg⟩:na) (rI (nth oO (Int.toNat oA)) 0) (rI (nth oO (Int.toNat oA)) 1)).1
 bif decide (oA<x) then
  bif Ec (Ec true (idx oA oO)) (inl (Int.toNat oA) oO) then
   bif Ec true (oC n7 z0) then
    oL (n7++z0) (nS (oA+1))
   else kd
  else kd
 else k_ n7 true
def vw (k_:Bytes→Bool→α) (N:Nat) (x:Int) (tg oO:Rows) (m_:Nat):Bytes→Int→α:=
 Nat.rec (motive:=fun _=>Bytes→Int→α) (fun _ _=>kd) (fun _ oL=>NT kd k_ x tg oO oL) m_
theorem V1 (k_:Bytes→Bool→α) (N:Nat) (x:Int) (tg oO:Rows) (m_:Nat):vw kd k_ N x tg oO (m_+1)=NT kd k_ x tg oO (vw kd k_ N x tg oO m_):=rfl
def TY {α:Type} (kd:α) (k_:Bytes→Bool→α) (l0:Int→Rows→Rows→Bytes→Int→α) (nc:Rows) (m:na) (domain at_ n:Int):α:=
 let z0:Rows×Bool:=sM nc m domain at_ n false
 bif !z0.2 then k_ [] false
 else l0 (len z0.1) m.nK z0.1 [] 0
def ncR (k_:Bytes→Bool→α) (N:Nat) (nc:Rows) (m:na) (domain at_ n:Int):α:=TY kd k_ (fun x tg oO=>vw kd k_ N x tg oO N) nc m domain at_ n
def nw8 (m:na) (R:Rows):Bytes:=R.foldl (fun o r=>o++(rq m (rI r 0) (rI r 1)).1) []
def ya (nc:Rows) (m:na) (domain at_ n:Int):Bytes×Bool:=bif !(sM nc m domain at_ n false).2 then ([],false) else (nw8 m (sM nc m domain at_ n false).1,true)
theorem nqx {σ:Type} (g:σ→List DC→σ):∀(l p:Rows) (s:σ),itN (fun i s=>g s (nth (p++l) i)) l.length p.length s=l.foldl g s:=TG g
theorem np2 (k_:Bytes→Bool→α) (nc:Rows) (m:na) (domain at_ n:Int) (TS:ka na.ct m.enc):∃N,ncR kd k_ N nc m domain at_ n=k_ (ya nc m domain at_ n).1 (ya nc m domain at_ n).2:=by
 have hp0:G3 (.sl [.str]) (.sl m.nK):=na.w9 TS
 refine⟨(sM nc m domain at_ n false).1.length+1, ?_⟩
 unfold ncR TY ya
 dsimp only
 cases hr:(sM nc m domain at_ n false).2
 ·rfl
 ·obtain⟨g1,g2,g3⟩:=WZ hp0 hr
  simp only[Bool.not_true,cond_false]
  generalize (sM nc m domain at_ n false).1=R at g3 ⊢
  have hM1:(⟨m.nK⟩:na)=m:=rfl
  refine (xL R.length (fun n i o=>vw kd k_ (R.length+1) (len R) m.nK R n o i) (fun i o=>o++(rq m (rI (nth R i) 0) (rI (nth R i) 1)).1) (fun o=>k_ o true) (fun i o=>o.length≤8192*i) ?_ ?_ ?_ (R.length+1) [] (by simp) (by omega)).trans ?_
  ·intro i o hi ho
   have:=(O4 (a:=rI (nth R i) 0) (n:=rI (nth R i) 1) hp0).1
   rw[List.length_append]
   omega
  ·intro n i o hi ho
   show vw kd k_ (R.length+1) (len R) m.nK R (n+1) o (i:Int)=_
   rw[V1]
   have hl:=(O4 (a:=rI (nth R i) 0) (n:=rI (nth R i) 1) hp0).1
   have g5:oC o (rq m (rI (nth R i) 0) (rI (nth R i) 1)).1=true:=Xm (by omega)
   have w1:nS ((i:Int)+1)=(i:Int)+1:=nJ (by omega) (by omega)
   simp only[NT,pL hi,n9 hi,sF hi,Int.toNat_natCast,hM1,g5,w1,ng,cond_true]
  ·intro n o ho
   show vw kd k_ (R.length+1) (len R) m.nK R (n+1) o (R.length:Int)=_
   rw[V1]
   simp only[NT,nX,cond_false]
  ·exact congrArg (fun o=>k_ o true) (nqx (fun (o:Bytes) (r:List DC)=>o++(rq m (rI r 0) (rI r 1)).1) R [] [])
def Og (k_:Bytes→Bool→α) (tg starts qv:Rows) (oL:Bytes→Int→α) (n7:Bytes) (k:Int):α:=
 let z0:Bytes:=(rq (⟨tg⟩:na) (rI (nth starts (Int.toNat k)) 0) (rI (nth qv (Int.toNat k)) 0)).1
 bif decide (k<len starts) then
  bif Ec (Ec (Ec (Ec true (idx k starts)) (inl (Int.toNat k) starts)) (idx k qv)) (inl (Int.toNat k) qv) then
   bif Ec true (oC n7 z0) then
    oL (n7++z0) (nS (k+1))
   else kd
  else kd
 else k_ n7 true
def vJ (k_:Bytes→Bool→α) (N:Nat) (tg starts qv:Rows) (m_:Nat):Bytes→Int→α:=
 Nat.rec (motive:=fun _=>Bytes→Int→α) (fun _ _=>kd) (fun _ oL=>Og kd k_ tg starts qv oL) m_
theorem W0 (k_:Bytes→Bool→α) (N:Nat) (tg starts qv:Rows) (m_:Nat):vJ kd k_ N tg starts qv (m_+1)=Og kd k_ tg starts qv (vJ kd k_ N tg starts qv m_):=rfl
def Vp {α:Type} (kd:α) (k_:Bytes→Bool→α) (l0:Rows→Rows→Rows→Bytes→Int→α) (nc:Rows) (m:na) (domain at_ n:Int):α:=
 let z0:Rows×Rows×Bool:=y5 nc m domain at_ n false
 bif !z0.2.2 then k_ [] false
 else l0 m.nK z0.1 z0.2.1 [] 0
def nd7 (k_:Bytes→Bool→α) (N:Nat) (nc:Rows) (m:na) (domain at_ n:Int):α:=Vp kd k_ (fun tg starts qv=>vJ kd k_ N tg starts qv N) nc m domain at_ n
theorem nru (k_:Bytes→Bool→α) (nc:Rows) (m:na) (domain at_ n:Int) (TS:ka na.ct m.enc):∃N,nd7 kd k_ N nc m domain at_ n=k_ (ya nc m domain at_ n).1 (ya nc m domain at_ n).2:=by
 have hp0:G3 (.sl [.str]) (.sl m.nK):=na.w9 TS
 refine⟨(sM nc m domain at_ n false).1.length+1, ?_⟩
 unfold nd7 Vp ya y5
 dsimp only
 cases hr:(sM nc m domain at_ n false).2
 ·rfl
 ·obtain⟨g1,g2,g3⟩:=WZ hp0 hr
  simp only[Bool.not_true,cond_false]
  generalize (sM nc m domain at_ n false).1=R at g3 ⊢
  have hM1:(⟨m.nK⟩:na)=m:=rfl
  refine (xL R.length (fun n i o=>vJ kd k_ (R.length+1) m.nK (R.map pF0) (R.map pF1) n o i) (fun i o=>o++(rq m (rI (nth R i) 0) (rI (nth R i) 1)).1) (fun o=>k_ o true) (fun i o=>o.length≤8192*i) ?_ ?_ ?_ (R.length+1) [] (by simp) (by omega)).trans ?_
  ·intro i o hi ho
   have:=(O4 (a:=rI (nth R i) 0) (n:=rI (nth R i) 1) hp0).1
   rw[List.length_append]
   omega
  ·intro n i o hi ho
   show vJ kd k_ (R.length+1) m.nK (R.map pF0) (R.map pF1) (n+1) o (i:Int)=_
   rw[W0]
   have hl:=(O4 (a:=rI (nth R i) 0) (n:=rI (nth R i) 1) hp0).1
   have g5:oC o (rq m (rI (nth R i) 0) (rI (nth R i) 1)).1=true:=Xm (by omega)
   have w1:nS ((i:Int)+1)=(i:Int)+1:=nJ (by omega) (by omega)
   have Mp:∀f:List DC→List DC,i<(R.map f).length:=fun f=>by rw[List.length_map];exact hi
   simp only[Og,pL (Mp _),n9 (Mp _),sF (Mp _),Int.toNat_natCast,nt6 _ hi,pF0,pF1,nvh,hM1,g5,w1,ng,cond_true]
  ·intro n o ho
   show vJ kd k_ (R.length+1) m.nK (R.map pF0) (R.map pF1) (n+1) o (R.length:Int)=_
   rw[W0]
   have hz:decide ((R.length:Int)<len (R.map pF0))=false:=decide_eq_false (by simp only[len,List.length_map];omega)
   simp only[Og,hz,cond_false]
  ·exact congrArg (fun o=>k_ o true) (nqx (fun (o:Bytes) (r:List DC)=>o++(rq m (rI r 0) (rI r 1)).1) R [] [])
def nez (k_:na→α) (m:na):α:=
 bif Ec true (qS 16 [] m.nK) then
  k_ m
 else kd
theorem nrV (k_:na→α) (m:na) (aJ:s_ m=true):nez kd k_ m=k_ (oB m):=by
 have HB:s_ m=true:=aJ
 unfold nez
 rw[rj (show sm m.nK=true from HB) (show 16≤8388608 by omega)]
 rfl
def uH (k_:na→Bool→α) (oL:Int→Bytes→Rows→α) (sD:Int) (ub:Bytes) (oz:Rows):α:=
 let z0:Bool:=idx (nS (Int.tdiv sD 128)) oz
 let z1:Bool:=inl (Int.toNat (nS (Int.tdiv sD 128))) oz
 let z2:Int:=v9 (len ub) (nS (128 - (Int.tmod sD 128)))
 let z3:List DC:=nth oz (Int.toNat (nS (Int.tdiv sD 128)))
 let z4:Bytes:=nap ub z2
 bif decide (0<len ub) then
  bif Ec (Ec (Ec (Ec (Ec (Ec true z0) z1) (okH ub z2)) (rA (rS z3 0) (Int.tmod sD 128) z4)) z0) z1 then
   bif Ec true (okL ub z2) then
    oL (nS (sD+z2)) (ncD ub z2) (List.set oz (Int.toNat (nS (Int.tdiv sD 128))) (bQ z3 0 [.str (u0 (rS z3 0) (Int.tmod sD 128) z4)]))
   else kd
  else kd
 else k_ (⟨oz⟩:na) true
def wK (k_:na→Bool→α) (N m_:Nat):Int→Bytes→Rows→α:=
 Nat.rec (motive:=fun _=>Int→Bytes→Rows→α) (fun _ _ _=>kd) (fun _ oL=>uH kd k_ oL) m_
theorem Qp (k_:na→Bool→α) (N m_:Nat):wK kd k_ N (m_+1)=uH kd k_ (wK kd k_ N m_):=rfl
def OO (k_:na→Bool→α) (l0:Int→Bytes→Rows→α) (m:na) (at_:Int) (s:Bytes):α:=
 bif Ec true (s_ m) then
  bif !(within m at_ (len s)) then k_ (oB m) false
  else l0 at_ s ((oB m).nK)
 else kd
def VC (k_:na→Bool→α) (N:Nat) (m:na) (at_:Int) (s:Bytes):α:=OO kd k_ (wK kd k_ N N) m at_ s
theorem nh9 (k_:na→Bool→α) (m:na) (at_:Int) (s:Bytes) (TS:ka na.ct m.enc) (aJ:sV m at_ s=true):∃N,VC kd k_ N m at_ s=k_ (qY m at_ s).1 (qY m at_ s).2:=by
 have hp0:G3 (.sl [.str]) (.sl m.nK):=na.w9 TS
 have Jc:s_ m=true:=aJ
 refine⟨s.length+1, ?_⟩
 unfold VC OO qY
 rw[show oB m=m from rfl]
 simp only[Jc,ng,cond_true]
 cases hw:within m at_ (len s)
 ·rfl
 ·obtain⟨p1,p2,p3,p4,p5⟩:=VO hp0 hw
  obtain⟨a,rfl⟩:=Int.eq_ofNat_of_zero_le p4
  simp only[Bool.not_true,cond_false,Int.toNat_natCast]
  have key:∀(q n a:Nat) (s:Bytes) (l:Rows),s.length≤q→q<n→pgs l→l.length≤64→a+s.length≤128*l.length→∀M,wK kd k_ M n (a:Int) s l=k_ (⟨nmT q a s l⟩:na) true:=by
   intro q
   induction q with
   | zero=>
    intro n a s l h1 h2 h3 h4 h5 M
    obtain⟨n,rfl⟩:∃q,n=q+1:=⟨n - 1,by omega⟩
    have:s=[]:=List.length_eq_zero_iff.1 (by omega)
    subst this
    rw[Qp]
    simp only[uH,show decide (0<len ([]:Bytes))=false by decide,cond_false,nmT]
   | succ q ih=>
    intro n a s l h1 h2 h3 h4 h5 M
    obtain⟨n,rfl⟩:∃q,n=q+1:=⟨n - 1,by omega⟩
    rw[Qp]
    by_cases hs:0<s.length
    ·have hd:decide (0<len s)=true:=decide_eq_true (by simp only[len];omega)
     have hpg:a / 128<l.length:=by omega
     obtain⟨p,e1,e2⟩:=h3 (a / 128) hpg
     have w1:nS (((a / 128:Nat):Int))=((a / 128:Nat):Int):=nJ (by omega) (by omega)
     have c1:v9 (len s) (nS (128 - ((a % 128:Nat):Int)))=((min s.length (128 - a % 128):Nat):Int):=by
      rw[nJ (by omega) (by omega)]
      unfold v9 len
      by_cases hx:128 - ((a % 128:Nat):Int)<(s.length:Int)
      ·rw[if_pos hx];omega
      ·rw[if_neg hx];omega
     have w2:nS ((a:Int)+((min s.length (128 - a % 128):Nat):Int))=((a+min s.length (128 - a % 128):Nat):Int):=by rw[nJ (by omega) (by omega)];omega
     have g1:okH s ((min s.length (128 - a % 128):Nat):Int)=true:=by simp only[okH,Bool.and_eq_true,decide_eq_true_eq];omega
     have g4:okL s ((min s.length (128 - a % 128):Nat):Int)=true:=by simp only[okL,Bool.and_eq_true,decide_eq_true_eq];omega
     have g5:ncD s ((min s.length (128 - a % 128):Nat):Int)=s.drop (min s.length (128 - a % 128)):=by simp [ncD]
     have g6:nap s ((min s.length (128 - a % 128):Nat):Int)=s.take (min s.length (128 - a % 128)):=by simp [nap]
     have g7:rA p ((a % 128:Nat):Int) (s.take (min s.length (128 - a % 128)))=true:=by
      simp only[rA,Bool.and_eq_true,decide_eq_true_eq,List.length_take];omega
     have tk:s.take (min s.length (128 - a % 128))=s.take (128 - a % 128):=by
      rcases Nat.le_total s.length (128 - a % 128) with h8 | h8
      ·rw[Nat.min_eq_left h8,List.take_length,List.take_of_length_le h8]
      ·rw[Nat.min_eq_right h8]
     have g8:u0 p ((a % 128:Nat):Int) (s.take (min s.length (128 - a % 128)))=nas p (a % 128) s:=by
      have hw:rE p ((a % 128:Nat):Int) (len (s.take (min s.length (128 - a % 128))))=true:=(within_iff (by omega)).2 (by simp only[len,List.length_take];omega)
      unfold u0 nas
      rw[hw,Bool.not_true,cond_false,Int.toNat_natCast,List.append_assoc,List.length_take,tk]
      congr 3
      omega
     have st:=nic (a:=a) (s:=s) h3 hpg
     have this:=ih n (a+min s.length (128 - a % 128)) (s.drop (min s.length (128 - a % 128))) (Rk l a s) (by rw[List.length_drop];omega) (by omega) st.1 (by rw[st.2];exact h4) (by rw[st.2,List.length_drop];omega) M
     have e5:Rk l a s=l.set (a / 128) [.str (nas p (a % 128) s)]:=by unfold Rk;rw[e1];rfl
     unfold nmT
     rw[decide_eq_true hs,cond_true]
     rw[e5] at this ⊢
     simp only[uH,hd,nko,nkp,w1,n9 hpg,sF hpg,Int.toNat_natCast,e1,nd3,c1,w2,g1,g4,g5,g6,g7,g8,nao,ng,nv,cond_true]
     exact this
    ·have:s=[]:=List.length_eq_zero_iff.1 (by omega)
     subst this
     simp only[uH,show decide (0<len ([]:Bytes))=false by decide,cond_false]
     rfl
  exact key s.length (s.length+1) a s m.nK (Nat.le_refl _) (by omega) p1 p2 (by simp only[len] at p5;omega) _
def zV (k_:na→Bool→α) (starts qv:Rows) (oL:Bytes→Int→Rows→α) (ub:Bytes) (k:Int) (oz:Rows):α:=
 let z0:Bytes:=nap ub (rI (nth qv (Int.toNat k)) 0)
 bif decide (k<len starts) then
  bif Ec (Ec (Ec (Ec (Ec (Ec true (idx k starts)) (inl (Int.toNat k) starts)) (idx k qv)) (inl (Int.toNat k) qv)) (okH ub (rI (nth qv (Int.toNat k)) 0))) (sV (⟨oz⟩:na) (rI (nth starts (Int.toNat k)) 0) z0) then
   bif Ec (Ec (Ec true (idx k qv)) (inl (Int.toNat k) qv)) (okL ub (rI (nth qv (Int.toNat k)) 0)) then
    oL (ncD ub (rI (nth qv (Int.toNat k)) 0)) (nS (k+1)) (((qY (⟨oz⟩:na) (rI (nth starts (Int.toNat k)) 0) z0).1).nK)
   else kd
  else kd
 else k_ (⟨oz⟩:na) true
def zU (k_:na→Bool→α) (N:Nat) (starts qv:Rows) (m_:Nat):Bytes→Int→Rows→α:=
 Nat.rec (motive:=fun _=>Bytes→Int→Rows→α) (fun _ _ _=>kd) (fun _ oL=>zV kd k_ starts qv oL) m_
theorem Vq (k_:na→Bool→α) (N:Nat) (starts qv:Rows) (m_:Nat):zU kd k_ N starts qv (m_+1)=zV kd k_ starts qv (zU kd k_ N starts qv m_):=rfl
def SC (k_:na→Bool→α) (l0:Rows→Rows→Bytes→Int→Rows→α) (nc:Rows) (m:na) (domain at_:Int) (s:Bytes):α:=
 let z0:Rows×Rows×Bool:=y5 nc m domain at_ (len s) true
 bif Ec true (s_ m) then
  bif !z0.2.2 then k_ (oB m) false
  else l0 z0.1 z0.2.1 s 0 ((oB m).nK)
 else kd
def nb5 (k_:na→Bool→α) (N:Nat) (nc:Rows) (m:na) (domain at_:Int) (s:Bytes):α:=SC kd k_ (fun starts qv=>zU kd k_ N starts qv N) nc m domain at_ s
theorem no8 (k_:na→Bool→α) (nc:Rows) (m:na) (domain at_:Int) (s:Bytes) (TS:ka na.ct m.enc) (Nr:G3 .str (.str s)) (aJ:sT nc m domain at_ s=true):∃N,nb5 kd k_ N nc m domain at_ s=k_ (rm nc m domain at_ s).1 (rm nc m domain at_ s).2:=by
 have hp0:G3 (.sl [.str]) (.sl m.nK):=na.w9 TS
 have Jc:s_ m=true:=aJ
 have Mt:=zf Nr
 refine⟨(sM nc m domain at_ (len s) true).1.length+1, ?_⟩
 unfold nb5 SC rm put y5
 rw[show oB m=m from rfl]
 simp only[Jc,ng,cond_true]
 cases hr:(sM nc m domain at_ (len s) true).2
 ·rfl
 ·obtain⟨g1,g2,g3⟩:=WZ hp0 hr
  simp only[Bool.not_true,cond_false]
  generalize (sM nc m domain at_ (len s) true).1=R at g3 ⊢
  have key:∀(q n i:Nat) (s:Bytes) (l:Rows),i+q=R.length→q<n→TN (fun _=>True) (R.drop i) s.length→pgs l→l.length≤64→R.length≤5000→
    zU kd k_ (R.length+1) (R.map pF0) (R.map pF1) n s (i:Int) l=k_ (⟨ns8 (R.drop i) s l⟩:na) true:=by
   intro q
   induction q with
   | zero=>
    intro n i s l h1 h2 h3 h4 h5 h6
    obtain⟨n,rfl⟩:∃q,n=q+1:=⟨n - 1,by omega⟩
    rw[Vq,List.drop_eq_nil_of_le (by omega)]
    have hf:decide ((i:Int)<len (R.map pF0))=false:=decide_eq_false (by simp only[len,List.length_map];omega)
    simp only[zV,hf,cond_false,ns8]
   | succ q ih=>
    intro n i s l h1 h2 h3 h4 h5 h6
    obtain⟨n,rfl⟩:∃q,n=q+1:=⟨n - 1,by omega⟩
    have hi:i<R.length:=by omega
    have e0:R[i]=nth R i:=by simp [nth,hi]
    rw[List.drop_eq_getElem_cons hi,e0] at h3 ⊢
    obtain⟨p,k,e1,k1,k2,k3,_,k4⟩:=h3
    rw[Vq]
    have w1:nS ((i:Int)+1)=((i+1:Nat):Int):=by rw[nJ (by omega) (by omega)];omega
    have x1:okH s (k:Int)=true:=by simp only[okH,Bool.and_eq_true,decide_eq_true_eq];omega
    have x2:okL s (k:Int)=true:=by simp only[okL,Bool.and_eq_true,decide_eq_true_eq];omega
    have x3:nap s (k:Int)=s.take k:=by simp [nap]
    have x4:ncD s (k:Int)=s.drop k:=by simp [ncD]
    have x5:∀a b,sV (⟨l⟩:na) a b=true:=fun a b=>by
     unfold sV sm
     exact decide_eq_true (by show l.length≤16777216;omega)
    have Mp:∀f:List DC→List DC,i<(R.map f).length:=fun f=>by rw[List.length_map];exact hi
    have n0:nth (R.map pF0) i=[.int (p:Int)]:=by rw[nt6 _ hi,e1];rfl
    have n1:nth (R.map pF1) i=[.int (k:Int)]:=by rw[nt6 _ hi,e1];rfl
    have r1:rI [DC.int (p:Int),DC.int (k:Int)] 0=(p:Int):=rfl
    have r2:rI [DC.int (p:Int),DC.int (k:Int)] 1=(k:Int):=rfl
    have wp:=nau (a:=(p:Int)) (s:=s.take k) h4 h5
    have this:=ih n (i+1) (s.drop k) (qY (⟨l⟩:na) (p:Int) (s.take k)).1.nK (by omega) (by omega) (by rw[List.length_drop];exact k4) wp.1 (by rw[wp.2];exact h5) h6
    simp only[zV,pL (Mp _),n9 (Mp _),sF (Mp _),Int.toNat_natCast,n0,n1,e1,r1,r2,nvh,x1,x2,x3,x4,x5,w1,ng,nv,cond_true,ns8]
    exact this
  exact key R.length (R.length+1) 0 s m.nK (by omega) (by omega) (by have h:=g3.1;rw[show (len s).toNat=s.length by simp [len]] at h;exact h) g1 g2 g3.2
def neI (k_:nB→α) (f:nB):α:=
 bif Ec true (qS 8 [] f.pd) then
  k_ f
 else kd
def nin (f:nB):Bool:=sm f.pd
theorem nr2 (k_:nB→α) (f:nB) (aJ:nin f=true):neI kd k_ f=k_ (oB f):=by
 have HB:nin f=true:=aJ
 unfold neI
 rw[rj (show sm f.pd=true from HB) (show 8≤8388608 by omega)]
 rfl
def Wg (k_:nB→α) (f:nB):α:=
 bif Ec true (sm f.pd) then
  k_ (⟨f.Qj,f.nU,oB f.pd⟩:nB)
 else kd
theorem niI (k_:nB→α) (f:nB) (aJ:nin f=true):Wg kd k_ f=k_ (oB f):=by
 have HB:nin f=true:=aJ
 unfold Wg
 rw[show sm f.pd=true from HB]
 rfl
def nes (k_:ni→α) (t:ni):α:=
 bif Ec true (qS 56 [] t.nC) then
  k_ t
 else kd
def nkn (t:ni):Bool:=sm t.nC
theorem nrO (k_:ni→α) (t:ni) (aJ:nkn t=true):nes kd k_ t=k_ (oB t):=by
 have HB:nkn t=true:=aJ
 unfold nes
 rw[rj (show sm t.nC=true from HB) (show 56≤8388608 by omega)]
 rfl
def Yo (k_:ni→α) (t:ni):α:=
 bif Ec true (qS 56 [] t.nC) then
  k_ t
 else kd
theorem nkW (k_:ni→α) (t:ni) (aJ:nkn t=true):Yo kd k_ t=k_ (oB t):=by
 have HB:nkn t=true:=aJ
 unfold Yo
 rw[rj (show sm t.nC=true from HB) (show 56≤8388608 by omega)]
 rfl
def Wj (k_:nD→α) (s:nD):α:=
 bif Ec true (sm s.Table) then
  k_ (⟨s.Key,oB s.Table⟩:nD)
 else kd
def nuT (s:nD):Bool:=sm s.Table
theorem niL (k_:nD→α) (s:nD) (aJ:nuT s=true):Wj kd k_ s=k_ (oB s):=by
 have HB:nuT s=true:=aJ
 unfold Wj
 rw[show sm s.Table=true from HB]
 rfl
def ney (k_:nm→α) (s:nm):α:=
 bif Ec (Ec (Ec true (qS 72 [] s.ot)) (nkn s.Table)) (qS 8 [] s.nL.Table) then
  k_ (⟨s.ot,oB s.Table,s.nL⟩:nm)
 else kd
def Z7 (s:nm):Bool:=sm s.ot && (sm s.Table.nC && sm s.nL.Table)
theorem nrT (k_:nm→α) (s:nm) (aJ:Z7 s=true):ney kd k_ s=k_ (oB s):=by
 have HB:Z7 s=true:=aJ
 unfold ney
 simp only[Z7,Bool.and_eq_true] at HB
 obtain⟨h1,h2,h3⟩:=HB
 rw[rj h1 (show 72≤8388608 by omega),rj h3 (show 8≤8388608 by omega),show nkn s.Table=true from h2]
 rfl
def S3 (k_:nm→α) (s:nm):α:=
 bif Ec (Ec (Ec true (qS 72 [] s.ot)) (nkn s.Table)) (nuT s.nL) then
  k_ (⟨s.ot,oB s.Table,oB s.nL⟩:nm)
 else kd
theorem ne_ (k_:nm→α) (s:nm) (aJ:Z7 s=true):S3 kd k_ s=k_ (oB s):=by
 have HB:Z7 s=true:=aJ
 unfold S3
 simp only[Z7,Bool.and_eq_true] at HB
 obtain⟨h1,h2,h3⟩:=HB
 rw[rj h1 (show 72≤8388608 by omega),show nkn s.Table=true from h2,show nuT s.nL=true from h3]
 rfl
def S2 (k_:Rows→α) (nc:Rows):α:=
 bif Ec true (qS 32 [] nc) then
  k_ nc
 else kd
theorem ne8 (k_:Rows→α) (nc:Rows) (aJ:sm nc=true):S2 kd k_ nc=k_ (oB nc):=by
 have HB:sm nc=true:=aJ
 unfold S2
 rw[rj (show sm nc=true from HB) (show 32≤8388608 by omega)]
 rfl
def Um (k_:Rows→α) (nc:Rows):α:=
 bif Ec true (qS 72 [] nc) then
  k_ nc
 else kd
theorem ng5 (k_:Rows→α) (nc:Rows) (aJ:sm nc=true):Um kd k_ nc=k_ (oB nc):=by
 have HB:sm nc=true:=aJ
 unfold Um
 rw[rj (show sm nc=true from HB) (show 72≤8388608 by omega)]
 rfl
def zA (k_:Rows→α) (nc:Rows) (oA:Int) (oL:Int→Rows→α) (oO:Int) (n7:Rows):α:=
 bif decide (oO<oA) then
  bif Ec true (idx oO nc) then
   bif Ec (Ec true (sm (rR (nth nc (Int.toNat oO)) 2))) (qS 40 n7 ([[.int (rI (nth nc (Int.toNat oO)) 0),.int (rI (nth nc (Int.toNat oO)) 1),.sl (oB (rR (nth nc (Int.toNat oO)) 2))]])) then
    oL (nS (oO+1)) (n7++([[.int (rI (nth nc (Int.toNat oO)) 0),.int (rI (nth nc (Int.toNat oO)) 1),.sl (oB (rR (nth nc (Int.toNat oO)) 2))]]))
   else kd
  else kd
 else k_ n7
def uV (k_:Rows→α) (N:Nat) (nc:Rows) (oA:Int) (m_:Nat):Int→Rows→α:=
 Nat.rec (motive:=fun _=>Int→Rows→α) (fun _ _=>kd) (fun _ oL=>zA kd k_ nc oA oL) m_
theorem Uk (k_:Rows→α) (N:Nat) (nc:Rows) (oA:Int) (m_:Nat):uV kd k_ N nc oA (m_+1)=zA kd k_ nc oA (uV kd k_ N nc oA m_):=rfl
def Sp {α:Type} (kd:α) (k_:Rows→α) (l0:Int→Int→Rows→α) (nc:Rows):α:=
 l0 (len nc) 0 []
def nbh (k_:Rows→α) (N:Nat) (nc:Rows):α:=Sp kd k_ (fun oA=>uV kd k_ N nc oA N) nc
theorem nnN (k_:Rows→α) (nc:Rows) (rF:G3 (.sl [.i,.i,.sl [.i]]) (.sl nc)) (aJ:PX nc=true):∃N,nbh kd k_ N nc=k_ (oB nc):=by
 obtain⟨hl,hw⟩:=oS rF
 have HB:=aJ
 simp only[PX,Bool.and_eq_true,List.all_eq_true] at HB
 obtain⟨s1,s2⟩:=HB
 have l1:=uG s1
 refine⟨nc.length+1, ?_⟩
 unfold nbh Sp
 refine (xL nc.length (fun n i o=>uV kd k_ (nc.length+1) nc (len nc) n i o) (fun i o=>o++[nth nc i]) k_ (fun i o=>o.length≤i) ?_ ?_ ?_ (nc.length+1) [] (by simp) (by omega)).trans ?_
 ·intro i o hi ho
  simp only[List.length_append,List.length_cons,List.length_nil];omega
 ·intro n i o hi ho
  show uV kd k_ (nc.length+1) nc (len nc) (n+1) (i:Int) o=_
  rw[Uk]
  have er:[DC.int (rI (nth nc i) 0),DC.int (rI (nth nc i) 1),DC.sl (rR (nth nc i) 2)]=nth nc i:=pG.eta (hw _ (tn hi))
  have hb:sm (rR (nth nc i) 2)=true:=s2 _ (tn hi)
  have iB:qS 8 [] (rR (nth nc i) 2)=true:=rj hb (show 8≤8388608 by omega)
  have eI:∀x:List DC,qS 40 o [x]=true:=fun x=>NK (by simp only[List.length_cons,List.length_nil];omega) (by omega)
  simp only[zA,oB,pL hi,n9 hi,hb,eI,er,oE hi hl,Int.toNat_natCast,ng,nv,cond_true]
 ·intro n o ho
  show uV kd k_ (nc.length+1) nc (len nc) (n+1) (nc.length:Int) o=_
  rw[Uk]
  simp only[zA,nX,cond_false]
 ·exact congrArg k_ ((TG (fun (o:Rows) (r:List DC)=>o++[r]) nc [] []).trans ((foldl_push (fun r=>r) nc []).trans (by simp [oB])))
def Ot (k_:nn→α) (XR:Rows) (n7 pw px py pz pA pB pC:Int) (zS:Rows) (oL:Int→Rows→α) (k:Int) (sL:Rows):α:=
 bif decide (k<len XR) then
  bif Ec true (idx k XR) then
   bif Ec (Ec true (qS 8 [] (rR (nth XR (Int.toNat k)) 2))) (qS 40 sL ([[.int (rI (nth XR (Int.toNat k)) 0),.int (rI (nth XR (Int.toNat k)) 1),.sl (rR (nth XR (Int.toNat k)) 2)]])) then
    oL (nS (k+1)) (sL++([[.int (rI (nth XR (Int.toNat k)) 0),.int (rI (nth XR (Int.toNat k)) 1),.sl (rR (nth XR (Int.toNat k)) 2)]]))
   else kd
  else kd
 else k_ (⟨(⟨n7,pw,px,py⟩:oc),(⟨pz,pA,pB,zS⟩:nE),sL,pC⟩:nn)
def uB (k_:nn→α) (N:Nat) (XR:Rows) (n7 pw px py pz pA pB pC:Int) (zS:Rows) (m_:Nat):Int→Rows→α:=
 Nat.rec (motive:=fun _=>Int→Rows→α) (fun _ _=>kd) (fun _ oL=>Ot kd k_ XR n7 pw px py pz pA pB pC zS oL) m_
theorem Xb (k_:nn→α) (N:Nat) (XR:Rows) (n7 pw px py pz pA pB pC:Int) (zS:Rows) (m_:Nat):uB kd k_ N XR n7 pw px py pz pA pB pC zS (m_+1)=Ot kd k_ XR n7 pw px py pz pA pB pC zS (uB kd k_ N XR n7 pw px py pz pA pB pC zS m_):=rfl
def VL (k_:nn→α) (l0:Rows→Int→Int→Int→Int→Int→Int→Int→Int→Rows→Int→Rows→α) (q:nn):α:=
 bif Ec true (PW q.nP) then
  l0 q.ny q.Ring.oM q.Ring.nI q.Ring.Head q.Ring.sQ ((oB q.nP).oM) ((oB q.nP).nI) ((oB q.nP).Count) q.Next ((oB q.nP).pN) 0 []
 else kd
def neH (k_:nn→α) (N:Nat) (q:nn):α:=VL kd k_ (fun XR n7 pw px py pz pA pB pC zS=>uB kd k_ N XR n7 pw px py pz pA pB pC zS N) q
def nr8 (q:nn):Bool:=sm q.nP.pN && PX q.ny
theorem nrZ (k_:nn→α) (q:nn) (h_q:ka nn.ct q.enc) (aJ:nr8 q=true):∃N,neH kd k_ N q=k_ (oB q):=by
 obtain⟨hl,hw⟩:=oS (nn.Rl h_q)
 have HB:=aJ
 simp only[nr8,PX,Bool.and_eq_true,List.all_eq_true] at HB
 obtain⟨s0,s1,s2⟩:=HB
 have l1:=uG s1
 refine⟨q.ny.length+1, ?_⟩
 unfold neH VL
 rw[show PW q.nP=true from s0]
 have key:∀(x0 x1 x2 x3 x4 x5 x6 x7:Int) (F:Rows),uB kd k_ (q.ny.length+1) q.ny x0 x1 x2 x3 x4 x5 x6 x7 F (q.ny.length+1) 0 []=k_ (⟨⟨x0,x1,x2,x3⟩,⟨x4,x5,x6,F⟩,q.ny,x7⟩:nn):=by
  intro x0 x1 x2 x3 x4 x5 x6 x7 F
  refine (xL q.ny.length (fun n i o=>uB kd k_ (q.ny.length+1) q.ny x0 x1 x2 x3 x4 x5 x6 x7 F n i o) (fun i o=>o++[nth q.ny i]) (fun o=>k_ (⟨⟨x0,x1,x2,x3⟩,⟨x4,x5,x6,F⟩,o,x7⟩:nn)) (fun i o=>o.length≤i) ?_ ?_ ?_ (q.ny.length+1) [] (by simp) (by omega)).trans ?_
  ·intro i o hi ho
   simp only[List.length_append,List.length_cons,List.length_nil];omega
  ·intro n i o hi ho
   show uB kd k_ (q.ny.length+1) q.ny x0 x1 x2 x3 x4 x5 x6 x7 F (n+1) (i:Int) o=_
   rw[Xb]
   have er:[DC.int (rI (nth q.ny i) 0),DC.int (rI (nth q.ny i) 1),DC.sl (rR (nth q.ny i) 2)]=nth q.ny i:=pG.eta (hw _ (tn hi))
   have hb:sm (rR (nth q.ny i) 2)=true:=s2 _ (tn hi)
   have iB:qS 8 [] (rR (nth q.ny i) 2)=true:=rj hb (show 8≤8388608 by omega)
   have eI:∀x:List DC,qS 40 o [x]=true:=fun x=>NK (by simp only[List.length_cons,List.length_nil];omega) (by omega)
   simp only[Ot,pL hi,n9 hi,iB,eI,er,oE hi hl,Int.toNat_natCast,ng,nv,cond_true]
  ·intro n o ho
   show uB kd k_ (q.ny.length+1) q.ny x0 x1 x2 x3 x4 x5 x6 x7 F (n+1) (q.ny.length:Int) o=_
   rw[Xb]
   simp only[Ot,nX,cond_false]
  ·exact congrArg (fun o=>k_ (⟨⟨x0,x1,x2,x3⟩,⟨x4,x5,x6,F⟩,o,x7⟩:nn)) ((TG (fun (o:Rows) (r:List DC)=>o++[r]) q.ny [] []).trans ((foldl_push (fun r=>r) q.ny []).trans (by simp)))
 exact key _ _ _ _ _ _ _ _ _
def nfR (k_:nn→α) (q:nn):α:=
 bif Ec (Ec true (PW q.nP)) (PX q.ny) then
  k_ (⟨q.Ring,oB q.nP,oB q.ny,q.Next⟩:nn)
 else kd
theorem nsn (k_:nn→α) (q:nn) (aJ:nr8 q=true):nfR kd k_ q=k_ (oB q):=by
 have HB:=aJ
 simp only[nr8,Bool.and_eq_true] at HB
 obtain⟨s0,s1⟩:=HB
 unfold nfR
 rw[show PW q.nP=true from s0,s1]
 rfl
def zz (k_:nt→α) (x:Rows) (oA:Int) (oG qd:Rows) (qk:Int) (ql:Bool) (qe oZ o_:Rows) (oX:Bytes) (pb qf qg qh qi:Rows) (n7 pw px py pz pA pB pC:Int) (oH:Bool) (oN oI re oJ oK:Int) (oz oa oe nT nR:Rows) (oL:Int→Rows→α) (oO:Int) (oR:Rows):α:=
 let z0:nm:=(⟨oZ,(⟨o_⟩:ni),(⟨oX,pb⟩:nD)⟩:nm)
 bif decide (oO<oA) then
  bif Ec true (idx oO x) then
   bif Ec (Ec true (PW (nE.nd (nth x (Int.toNat oO)) 0))) (qS 48 oR [nE.enc (oB (nE.nd (nth x (Int.toNat oO)) 0))]) then
    oL (nS (oO+1)) (oR++[nE.enc (oB (nE.nd (nth x (Int.toNat oO)) 0))])
   else kd
  else kd
 else bif Ec true (qS 40 [] oG) then
   bif Ec true (qS 1 [] qd) then
    bif Ec true (nin (⟨qk,ql,qe⟩:nB)) then
     bif Ec true (Z7 z0) then
      bif Ec true (sm qf) then
       bif Ec true (sm qg) then
        bif Ec true (sm qh) then
         bif Ec true (sm qi) then
          k_ (⟨(⟨oz⟩:na),oa,(⟨(⟨n7,pw,px,py⟩:oc),(⟨pz,pA,pB,oe⟩:nE),nT,pC⟩:nn),nR,oR,oG,qd,oB (⟨qk,ql,qe⟩:nB),oB z0,oB qf,oH,oB qg,oB qh,oB qi,(⟨oN,oI,re,oJ,oK⟩:nV)⟩:nt)
         else kd
        else kd
       else kd
      else kd
     else kd
    else kd
   else kd
  else kd
def tZ (k_:nt→α) (N:Nat) (x:Rows) (oA:Int) (oG qd:Rows) (qk:Int) (ql:Bool) (qe oZ o_:Rows) (oX:Bytes) (pb qf qg qh qi:Rows) (n7 pw px py pz pA pB pC:Int) (oH:Bool) (oN oI re oJ oK:Int) (oz oa oe nT nR:Rows) (m_:Nat):Int→Rows→α:=
 Nat.rec (motive:=fun _=>Int→Rows→α) (fun _ _=>kd) (fun _ oL=>zz kd k_ x oA oG qd qk ql qe oZ o_ oX pb qf qg qh qi n7 pw px py pz pA pB pC oH oN oI re oJ oK oz oa oe nT nR oL) m_
theorem Uj (k_:nt→α) (N:Nat) (x:Rows) (oA:Int) (oG qd:Rows) (qk:Int) (ql:Bool) (qe oZ o_:Rows) (oX:Bytes) (pb qf qg qh qi:Rows) (n7 pw px py pz pA pB pC:Int) (oH:Bool) (oN oI re oJ oK:Int) (oz oa oe nT nR:Rows) (m_:Nat):tZ kd k_ N x oA oG qd qk ql qe oZ o_ oX pb qf qg qh qi n7 pw px py pz pA pB pC oH oN oI re oJ oK oz oa oe nT nR (m_+1)=zz kd k_ x oA oG qd qk ql qe oZ o_ oX pb qf qg qh qi n7 pw px py pz pA pB pC oH oN oI re oJ oK oz oa oe nT nR (tZ kd k_ N x oA oG qd qk ql qe oZ o_ oX pb qf qg qh qi n7 pw px py pz pA pB pC oH oN oI re oJ oK oz oa oe nT nR m_):=rfl
def Sm (k_:nt→α) (l0:Rows→Int→Rows→Rows→Int→Bool→Rows→Rows→Rows→Bytes→Rows→Rows→Rows→Rows→Rows→Int→Int→Int→Int→Int→Int→Int→Int→Bool→Int→Int→Int→Int→Int→Rows→Rows→Rows→Rows→Rows→Int→Rows→α) (h:nt):α:=
 bif Ec true (s_ h.nZ) then
  bif Ec true (sm h.Maps) then
   bif Ec true (nr8 h.Tx) then
    bif Ec true (qS 248 [] h.Rx) then
     l0 h.n_ (len h.n_) h.nM h.ox h.Filter.Qj h.Filter.nU h.Filter.pd h.nh.ot h.nh.Table.nC h.nh.nL.Key h.nh.nL.Table h.oF h.sU h.nY h.oq (((oB h.Tx).Ring).oM) (((oB h.Tx).Ring).nI) (((oB h.Tx).Ring).Head) (((oB h.Tx).Ring).sQ) (((oB h.Tx).nP).oM) (((oB h.Tx).nP).nI) (((oB h.Tx).nP).Count) ((oB h.Tx).Next) h.pj h.Counters.Frames h.Counters.SN h.Counters.oY h.Counters.pP h.Counters.rW ((oB h.nZ).nK) (oB h.Maps) (((oB h.Tx).nP).pN) ((oB h.Tx).ny) h.Rx 0 []
    else kd
   else kd
  else kd
 else kd
def nbb (k_:nt→α) (N:Nat) (h:nt):α:=Sm kd k_ (fun x oA oG qd qk ql qe oZ o_ oX pb qf qg qh qi n7 pw px py pz pA pB pC oH oN oI re oJ oK oz oa oe nT nR=>tZ kd k_ N x oA oG qd qk ql qe oZ o_ oX pb qf qg qh qi n7 pw px py pz pA pB pC oH oN oI re oJ oK oz oa oe nT nR N) h
theorem nnI (k_:nt→α) (h:nt) (h_h:ka nt.ct h.enc) (aJ:vu h=true):∃N,nbb kd k_ N h=k_ (oB h):=by
 obtain⟨hl,hw⟩:=oS (nt.nsb h_h)
 have HB:vu h=true:=aJ
 simp only[vu,Bool.and_eq_true] at HB
 obtain⟨s0,s1,s2,s3,s4,s5,s6,s7,s8,s9,s10,s11,s12,s13,s14,s15⟩:=HB
 simp only[nal,Bool.and_eq_true,List.all_eq_true] at s5
 obtain⟨t1,t2⟩:=s5
 have l1:=uG t1
 have m2:nr8 h.Tx=true:=by simp only[nr8,s2,s3,Bool.and_self]
 have r4:qS 248 [] h.Rx=true:=rj s4 (by omega)
 refine⟨h.n_.length+1, ?_⟩
 unfold nbb Sm
 rw[show s_ h.nZ=true from s0]
 simp only[m2,r4,s1,ng,cond_true]
 have key:∀(oG:Rows) (qd:Rows) (qk:Int) (ql:Bool) (qe:Rows) (oZ:Rows) (o_:Rows) (oX:Bytes) (pb:Rows) (qf:Rows) (qg:Rows) (qh:Rows) (qi:Rows) (n7:Int) (pw:Int) (px:Int) (py:Int) (pz:Int) (pA:Int) (pB:Int) (pC:Int) (oH:Bool) (oN:Int) (oI:Int) (re:Int) (oJ:Int) (oK:Int) (oz:Rows) (oa:Rows) (oe:Rows) (nT:Rows) (nR:Rows),sm oG=true→sm qd=true→sm qe=true→sm oZ=true→sm o_=true→sm pb=true→sm qf=true→sm qg=true→sm qh=true→sm qi=true→
   tZ kd k_ (h.n_.length+1) h.n_ (len h.n_) oG qd qk ql qe oZ o_ oX pb qf qg qh qi n7 pw px py pz pA pB pC oH oN oI re oJ oK oz oa oe nT nR (h.n_.length+1) 0 []=k_ (⟨(⟨oz⟩:na),oa,(⟨(⟨n7,pw,px,py⟩:oc),(⟨pz,pA,pB,oe⟩:nE),nT,pC⟩:nn),nR,h.n_,oG,qd,(⟨qk,ql,qe⟩:nB),(⟨oZ,(⟨o_⟩:ni),(⟨oX,pb⟩:nD)⟩:nm),qf,oH,qg,qh,qi,(⟨oN,oI,re,oJ,oK⟩:nV)⟩:nt):=by
  intro oG qd qk ql qe oZ o_ oX pb qf qg qh qi n7 pw px py pz pA pB pC oH oN oI re oJ oK oz oa oe nT nR q6 q7 q8 q9 q10 q11 q12 q13 q14 q15
  have u6:qS 40 [] oG=true:=rj q6 (by omega)
  have u7:qS 1 [] qd=true:=rj q7 (by omega)
  have u8:nin (⟨qk,ql,qe⟩:nB)=true:=q8
  have u9:Z7 (⟨oZ,(⟨o_⟩:ni),(⟨oX,pb⟩:nD)⟩:nm)=true:=by simp only[Z7,q9,q10,q11,Bool.and_self]
  have u12:qS 72 [] qf=true:=rj q12 (by omega)
  have u13:qS 16 [] qg=true:=rj q13 (by omega)
  have u14:qS 8 [] qh=true:=rj q14 (by omega)
  have u15:qS 8 [] qi=true:=rj q15 (by omega)
  refine (xL h.n_.length (fun n i o=>tZ kd k_ (h.n_.length+1) h.n_ (len h.n_) oG qd qk ql qe oZ o_ oX pb qf qg qh qi n7 pw px py pz pA pB pC oH oN oI re oJ oK oz oa oe nT nR n i o) (fun i o=>o++[nth h.n_ i]) (fun o=>k_ (⟨(⟨oz⟩:na),oa,(⟨(⟨n7,pw,px,py⟩:oc),(⟨pz,pA,pB,oe⟩:nE),nT,pC⟩:nn),nR,o,oG,qd,(⟨qk,ql,qe⟩:nB),(⟨oZ,(⟨o_⟩:ni),(⟨oX,pb⟩:nD)⟩:nm),qf,oH,qg,qh,qi,(⟨oN,oI,re,oJ,oK⟩:nV)⟩:nt)) (fun i o=>o.length≤i) ?_ ?_ ?_ (h.n_.length+1) [] (by simp) (by omega)).trans ?_
  ·intro i o hi ho
   simp only[List.length_append,List.length_cons,List.length_nil];omega
  ·intro n i o hi ho
   show tZ kd k_ (h.n_.length+1) h.n_ (len h.n_) oG qd qk ql qe oZ o_ oX pb qf qg qh qi n7 pw px py pz pA pB pC oH oN oI re oJ oK oz oa oe nT nR (n+1) (i:Int) o=_
   rw[Uj]
   have er:nE.enc (nE.nd (nth h.n_ i) 0)=nth h.n_ i:=nE.eta (hw _ (tn hi))
   have hb:PW (nE.nd (nth h.n_ i) 0)=true:=t2 _ (tn hi)
   have eI:∀x:List DC,qS 48 o [x]=true:=fun x=>NK (by simp only[List.length_cons,List.length_nil];omega) (by omega)
   simp only[zz,oB,pL hi,n9 hi,hb,eI,er,oE hi hl,Int.toNat_natCast,ng,nv,cond_true]
  ·intro n o ho
   show tZ kd k_ (h.n_.length+1) h.n_ (len h.n_) oG qd qk ql qe oZ o_ oX pb qf qg qh qi n7 pw px py pz pA pB pC oH oN oI re oJ oK oz oa oe nT nR (n+1) (h.n_.length:Int) o=_
   rw[Uj]
   simp only[zz,nX,cond_false,oB,u6,u7,u8,u9,u12,u13,u14,u15,q12,q13,q14,q15,ng,cond_true]
  ·exact congrArg (fun o=>k_ (⟨(⟨oz⟩:na),oa,(⟨(⟨n7,pw,px,py⟩:oc),(⟨pz,pA,pB,oe⟩:nE),nT,pC⟩:nn),nR,o,oG,qd,(⟨qk,ql,qe⟩:nB),(⟨oZ,(⟨o_⟩:ni),(⟨oX,pb⟩:nD)⟩:nm),qf,oH,qg,qh,qi,(⟨oN,oI,re,oJ,oK⟩:nV)⟩:nt)) ((TG (fun (o:Rows) (r:List DC)=>o++[r]) h.n_ [] []).trans ((foldl_push (fun r=>r) h.n_ []).trans (by simp)))
 exact key _ _ _ _ _ _ _ _ _ _ _ _ _ _ _ _ _ _ _ _ _ _ _ _ _ _ _ _ _ _ _ _ s6 s7 s8 s9 s10 s11 s12 s13 s14 s15
def Ou (k_:nt→α) (pI oG qd:Rows) (qk:Int) (ql:Bool) (qe oZ o_:Rows) (oX:Bytes) (pb qf qg qh qi:Rows) (n7 pw px py pz pA pB pC:Int) (oH:Bool) (oN oI re oJ oK:Int) (oz oa oe nT nR:Rows) (oL:Int→Rows→α) (k:Int) (oR:Rows):α:=
 let z0:nm:=(⟨oZ,(⟨o_⟩:ni),(⟨oX,pb⟩:nD)⟩:nm)
 bif decide (k<len pI) then
  bif Ec (Ec (Ec true (idx k pI)) (PW (nE.nd (nth pI (Int.toNat k)) 0))) (qS 48 oR [nE.enc (oB (nE.nd (nth pI (Int.toNat k)) 0))]) then
   oL (nS (k+1)) (oR++[nE.enc (oB (nE.nd (nth pI (Int.toNat k)) 0))])
  else kd
 else bif Ec true (qS 40 [] oG) then
   bif Ec true (qS 1 [] qd) then
    bif Ec true (nin (⟨qk,ql,qe⟩:nB)) then
     bif Ec true (Z7 z0) then
      bif Ec true (qS 72 [] qf) then
       bif Ec true (qS 16 [] qg) then
        bif Ec true (qS 8 [] qh) then
         bif Ec true (qS 8 [] qi) then
          k_ (⟨(⟨oz⟩:na),oa,(⟨(⟨n7,pw,px,py⟩:oc),(⟨pz,pA,pB,oe⟩:nE),nT,pC⟩:nn),nR,oR,oG,qd,oB (⟨qk,ql,qe⟩:nB),oB z0,qf,oH,qg,qh,qi,(⟨oN,oI,re,oJ,oK⟩:nV)⟩:nt)
         else kd
        else kd
       else kd
      else kd
     else kd
    else kd
   else kd
  else kd
def uC (k_:nt→α) (N:Nat) (pI oG qd:Rows) (qk:Int) (ql:Bool) (qe oZ o_:Rows) (oX:Bytes) (pb qf qg qh qi:Rows) (n7 pw px py pz pA pB pC:Int) (oH:Bool) (oN oI re oJ oK:Int) (oz oa oe nT nR:Rows) (m_:Nat):Int→Rows→α:=
 Nat.rec (motive:=fun _=>Int→Rows→α) (fun _ _=>kd) (fun _ oL=>Ou kd k_ pI oG qd qk ql qe oZ o_ oX pb qf qg qh qi n7 pw px py pz pA pB pC oH oN oI re oJ oK oz oa oe nT nR oL) m_
theorem Xc (k_:nt→α) (N:Nat) (pI oG qd:Rows) (qk:Int) (ql:Bool) (qe oZ o_:Rows) (oX:Bytes) (pb qf qg qh qi:Rows) (n7 pw px py pz pA pB pC:Int) (oH:Bool) (oN oI re oJ oK:Int) (oz oa oe nT nR:Rows) (m_:Nat):uC kd k_ N pI oG qd qk ql qe oZ o_ oX pb qf qg qh qi n7 pw px py pz pA pB pC oH oN oI re oJ oK oz oa oe nT nR (m_+1)=Ou kd k_ pI oG qd qk ql qe oZ o_ oX pb qf qg qh qi n7 pw px py pz pA pB pC oH oN oI re oJ oK oz oa oe nT nR (uC kd k_ N pI oG qd qk ql qe oZ o_ oX pb qf qg qh qi n7 pw px py pz pA pB pC oH oN oI re oJ oK oz oa oe nT nR m_):=rfl
def VM (k_:nt→α) (l0:Rows→Rows→Rows→Int→Bool→Rows→Rows→Rows→Bytes→Rows→Rows→Rows→Rows→Rows→Int→Int→Int→Int→Int→Int→Int→Int→Bool→Int→Int→Int→Int→Int→Rows→Rows→Rows→Rows→Rows→Int→Rows→α) (h:nt):α:=
 bif Ec true (s_ h.nZ) then
  bif Ec true (qS 32 [] h.Maps) then
   bif Ec true (nr8 h.Tx) then
    bif Ec true (qS 248 [] h.Rx) then
     l0 h.n_ h.nM h.ox h.Filter.Qj h.Filter.nU h.Filter.pd h.nh.ot h.nh.Table.nC h.nh.nL.Key h.nh.nL.Table h.oF h.sU h.nY h.oq (((oB h.Tx).Ring).oM) (((oB h.Tx).Ring).nI) (((oB h.Tx).Ring).Head) (((oB h.Tx).Ring).sQ) (((oB h.Tx).nP).oM) (((oB h.Tx).nP).nI) (((oB h.Tx).nP).Count) ((oB h.Tx).Next) h.pj h.Counters.Frames h.Counters.SN h.Counters.oY h.Counters.pP h.Counters.rW ((oB h.nZ).nK) h.Maps (((oB h.Tx).nP).pN) ((oB h.Tx).ny) h.Rx 0 []
    else kd
   else kd
  else kd
 else kd
def neM (k_:nt→α) (N:Nat) (h:nt):α:=VM kd k_ (fun pI oG qd qk ql qe oZ o_ oX pb qf qg qh qi n7 pw px py pz pA pB pC oH oN oI re oJ oK oz oa oe nT nR=>uC kd k_ N pI oG qd qk ql qe oZ o_ oX pb qf qg qh qi n7 pw px py pz pA pB pC oH oN oI re oJ oK oz oa oe nT nR N) h
theorem nr4 (k_:nt→α) (h:nt) (h_h:ka nt.ct h.enc) (aJ:vu h=true):∃N,neM kd k_ N h=k_ (oB h):=by
 obtain⟨hl,hw⟩:=oS (nt.nsb h_h)
 have HB:vu h=true:=aJ
 simp only[vu,Bool.and_eq_true] at HB
 obtain⟨s0,s1,s2,s3,s4,s5,s6,s7,s8,s9,s10,s11,s12,s13,s14,s15⟩:=HB
 simp only[nal,Bool.and_eq_true,List.all_eq_true] at s5
 obtain⟨t1,t2⟩:=s5
 have l1:=uG t1
 have m2:nr8 h.Tx=true:=by simp only[nr8,s2,s3,Bool.and_self]
 have r4:qS 248 [] h.Rx=true:=rj s4 (by omega)
 have r1:qS 32 [] h.Maps=true:=rj s1 (by omega)
 refine⟨h.n_.length+1, ?_⟩
 unfold neM VM
 rw[show s_ h.nZ=true from s0]
 simp only[m2,r4,r1,ng,cond_true]
 have key:∀(oG:Rows) (qd:Rows) (qk:Int) (ql:Bool) (qe:Rows) (oZ:Rows) (o_:Rows) (oX:Bytes) (pb:Rows) (qf:Rows) (qg:Rows) (qh:Rows) (qi:Rows) (n7:Int) (pw:Int) (px:Int) (py:Int) (pz:Int) (pA:Int) (pB:Int) (pC:Int) (oH:Bool) (oN:Int) (oI:Int) (re:Int) (oJ:Int) (oK:Int) (oz:Rows) (oa:Rows) (oe:Rows) (nT:Rows) (nR:Rows),sm oG=true→sm qd=true→sm qe=true→sm oZ=true→sm o_=true→sm pb=true→sm qf=true→sm qg=true→sm qh=true→sm qi=true→
   uC kd k_ (h.n_.length+1) h.n_ oG qd qk ql qe oZ o_ oX pb qf qg qh qi n7 pw px py pz pA pB pC oH oN oI re oJ oK oz oa oe nT nR (h.n_.length+1) 0 []=k_ (⟨(⟨oz⟩:na),oa,(⟨(⟨n7,pw,px,py⟩:oc),(⟨pz,pA,pB,oe⟩:nE),nT,pC⟩:nn),nR,h.n_,oG,qd,(⟨qk,ql,qe⟩:nB),(⟨oZ,(⟨o_⟩:ni),(⟨oX,pb⟩:nD)⟩:nm),qf,oH,qg,qh,qi,(⟨oN,oI,re,oJ,oK⟩:nV)⟩:nt):=by
  intro oG qd qk ql qe oZ o_ oX pb qf qg qh qi n7 pw px py pz pA pB pC oH oN oI re oJ oK oz oa oe nT nR q6 q7 q8 q9 q10 q11 q12 q13 q14 q15
  have u6:qS 40 [] oG=true:=rj q6 (by omega)
  have u7:qS 1 [] qd=true:=rj q7 (by omega)
  have u8:nin (⟨qk,ql,qe⟩:nB)=true:=q8
  have u9:Z7 (⟨oZ,(⟨o_⟩:ni),(⟨oX,pb⟩:nD)⟩:nm)=true:=by simp only[Z7,q9,q10,q11,Bool.and_self]
  have u12:qS 72 [] qf=true:=rj q12 (by omega)
  have u13:qS 16 [] qg=true:=rj q13 (by omega)
  have u14:qS 8 [] qh=true:=rj q14 (by omega)
  have u15:qS 8 [] qi=true:=rj q15 (by omega)
  refine (xL h.n_.length (fun n i o=>uC kd k_ (h.n_.length+1) h.n_ oG qd qk ql qe oZ o_ oX pb qf qg qh qi n7 pw px py pz pA pB pC oH oN oI re oJ oK oz oa oe nT nR n i o) (fun i o=>o++[nth h.n_ i]) (fun o=>k_ (⟨(⟨oz⟩:na),oa,(⟨(⟨n7,pw,px,py⟩:oc),(⟨pz,pA,pB,oe⟩:nE),nT,pC⟩:nn),nR,o,oG,qd,(⟨qk,ql,qe⟩:nB),(⟨oZ,(⟨o_⟩:ni),(⟨oX,pb⟩:nD)⟩:nm),qf,oH,qg,qh,qi,(⟨oN,oI,re,oJ,oK⟩:nV)⟩:nt)) (fun i o=>o.length≤i) ?_ ?_ ?_ (h.n_.length+1) [] (by simp) (by omega)).trans ?_
  ·intro i o hi ho
   simp only[List.length_append,List.length_cons,List.length_nil];omega
  ·intro n i o hi ho
   show uC kd k_ (h.n_.length+1) h.n_ oG qd qk ql qe oZ o_ oX pb qf qg qh qi n7 pw px py pz pA pB pC oH oN oI re oJ oK oz oa oe nT nR (n+1) (i:Int) o=_
   rw[Xc]
   have er:nE.enc (nE.nd (nth h.n_ i) 0)=nth h.n_ i:=nE.eta (hw _ (tn hi))
   have hb:PW (nE.nd (nth h.n_ i) 0)=true:=t2 _ (tn hi)
   have eI:∀x:List DC,qS 48 o [x]=true:=fun x=>NK (by simp only[List.length_cons,List.length_nil];omega) (by omega)
   simp only[Ou,oB,pL hi,n9 hi,hb,eI,er,oE hi hl,Int.toNat_natCast,ng,nv,cond_true]
  ·intro n o ho
   show uC kd k_ (h.n_.length+1) h.n_ oG qd qk ql qe oZ o_ oX pb qf qg qh qi n7 pw px py pz pA pB pC oH oN oI re oJ oK oz oa oe nT nR (n+1) (h.n_.length:Int) o=_
   rw[Xc]
   simp only[Ou,nX,cond_false,oB,u6,u7,u8,u9,u12,u13,u14,u15,q12,q13,q14,q15,ng,cond_true]
  ·exact congrArg (fun o=>k_ (⟨(⟨oz⟩:na),oa,(⟨(⟨n7,pw,px,py⟩:oc),(⟨pz,pA,pB,oe⟩:nE),nT,pC⟩:nn),nR,o,oG,qd,(⟨qk,ql,qe⟩:nB),(⟨oZ,(⟨o_⟩:ni),(⟨oX,pb⟩:nD)⟩:nm),qf,oH,qg,qh,qi,(⟨oN,oI,re,oJ,oK⟩:nV)⟩:nt)) ((TG (fun (o:Rows) (r:List DC)=>o++[r]) h.n_ [] []).trans ((foldl_push (fun r=>r) h.n_ []).trans (by simp)))
 exact key _ _ _ _ _ _ _ _ _ _ _ _ _ _ _ _ _ _ _ _ _ _ _ _ _ _ _ _ _ _ _ _ s6 s7 s8 s9 s10 s11 s12 s13 s14 s15
structure rh where
 Op:Int
 Flags:Int
 Len:Int
 At:Int
 nI:Int
 uv:Int
def rh.enc (x:rh):List DC:=[.int x.Op,.int x.Flags,.int x.Len,.int x.At,.int x.nI,.int x.uv]
def rh.nd (r:List DC) (o:Nat):rh:=⟨rI r (o+0),rI r (o+1),rI r (o+2),rI r (o+3),rI r (o+4),rI r (o+5)⟩
def rh.ct:List CT:=[.i,.i,.i,.i,.i,.i]
theorem rh.eta {r:List DC} (h:ka rh.ct r):(rh.nd r 0).enc=r:=(show (rh.nd r 0).enc=tq rh.ct r 0 from by kernel_rfl).trans (rC h)
theorem rh.nz {r:List CT} {ds:List DC} (h:ka (rh.ct++r) ds):∃(x:rh) (aX:List DC),ds=x.enc++aX∧ka rh.ct x.enc∧ka r aX:=by
 obtain⟨d1,d2,rfl,h1,h2⟩:=qW h
 exact⟨rh.nd d1 0,d2,by rw[rh.eta h1],by rw[rh.eta h1];exact h1,h2⟩
theorem rh.nws {x:rh} (h:ka rh.ct x.enc):G3 .i (.int x.Flags):=oh 1 h rfl rfl
theorem rh.nxa {x:rh} (h:ka rh.ct x.enc):G3 .i (.int x.Len):=oh 2 h rfl rfl
theorem rh.nks {x:rh} (h:ka rh.ct x.enc):G3 .i (.int x.nI):=oh 4 h rfl rfl
theorem rh.ntE {x:rh} (h:ka rh.ct x.enc):G3 .i (.int x.uv):=oh 5 h rfl rfl
def nis (k_:Int→α) (s:Bytes) (at_:Int):α:=
 bif bif decide (at_<0) then true else decide (nS ((len s) - 2)<at_) then k_ (-1)
 else bif Ec (Ec true (idx at_ s)) (idx (nS (at_+1)) s) then
   k_ (bits .or .i64 (nfz .i64 (nS (y9 s at_)) 8) (nS (y9 s (nS (at_+1)))))
  else kd
theorem ntU (k_:Int→α) (s:Bytes) (at_:Int) (Nr:G3 .str (.str s)):nis kd k_ s at_=k_ (TL s at_):=by
 have hl:=zf Nr
 have hl0:0≤len s:=by simp [len]
 have GG:len s≤9223372036854775807:=by simp only[len];omega
 unfold nis TL
 have nw1:(bif decide (at_<0) then true else decide (nS (len s - 2)<at_))= !(rE s at_ 2):=by
  have h1:=within_iff (s:=s) (at_:=at_) (n:=2) hl
  rw[nJ (n:=len s - 2) (by omega) (by omega)]
  cases hw:rE s at_ 2
  ·by_cases h0:at_<0
   ·simp [h0]
   ·by_cases h2:len s - 2<at_
    ·simp [h0,h2]
    ·rw[h1.2 (by omega)] at hw
     cases hw
  ·have:=h1.1 hw
   simp [show ¬at_<0 by omega,show ¬len s - 2<at_ by omega]
 rw[nw1]
 cases hw:rE s at_ 2
 ·rfl
 ·have hh:=(within_iff hl).1 hw
  have w1:nS (at_+1)=at_+1:=nJ (by omega) (by omega)
  have dR:∀j:Int,0≤j→j<len s→idx j s=true:=by
   intro j h1 h2
   simp only[len] at h2
   simp only[idx,Bool.and_eq_true,decide_eq_true_eq]
   omega
  have b0:=x_ s at_
  have c0:=x9 s at_
  have b1:=x_ s (at_+1)
  have c1:=x9 s (at_+1)
  simp only[w1,dR at_ (by omega) (by omega),dR (at_+1) (by omega) (by omega),ng,cond_true,cond_false,Bool.not_true]
  rw[nJ (n:=y9 s at_) (by omega) (by omega),nJ (n:=y9 s (at_+1)) (by omega) (by omega),nwm,nJ (n:=y9 s at_*256) (by omega) (by omega),ne1 8 (y:=y9 s (at_+1)) (by omega) (by omega) (by omega) (by omega) (by omega) (by omega)]
def nfF {α:Type} (k_:Bool→α) (x:rh):α:=
 k_ (bif nj x.Op 0 3 then bif nj x.Flags 0 3 then bif nj x.Len 0 65535 then bif nj x.nI 0 65535 then bif nj x.uv 0 65535 then nj x.At 0 4294967295 else false else false else false else false else false)
def ntH (x:rh):Bool:=nfF id x
theorem nfE {α:Type} (k_:Bool→α) (x:rh):nfF k_ x=k_ (ntH x):=by
 rfl
def T9 (k_:Int→α) (r:oc) (count:Int):α:=
 bif bif !(uc r) then true else decide (count<0) then k_ (-1)
 else bif Ec true (!(r.nI==0)) then
   k_ (nS (r.oM+(nS ((Int.tmod count r.nI)*16))))
  else kd
def ud (r:oc) (count:Int):Int:=bif bif !(uc r) then true else decide (count<0) then -1 else nS (r.oM+nS (Int.tmod count r.nI*16))
theorem ngU (k_:Int→α) (r:oc) (count:Int):T9 kd k_ r count=k_ (ud r count):=by
 unfold T9 ud
 refine qP (fun _=>rfl) (fun hg=> ?_)
 have hr:uc r=true:=by
  revert hg
  cases uc r<;>simp
 have hs:=RM hr
 have hz:(!(r.nI==0))=true:=by simp;omega
 simp only[hz,ng,cond_true]
def Vv (k_:Int→α) (r:oc) (count:Int):α:=
 bif bif !(uc r) then true else decide (count<0) then k_ (-1)
 else bif Ec true (!(r.nI==0)) then
   k_ (nS (r.oM+(nS (16*(Int.tmod count r.nI)))))
  else kd
theorem nhX (k_:Int→α) (r:oc) (count:Int):Vv kd k_ r count=k_ (ud r count):=by
 unfold Vv ud
 refine qP (fun _=>rfl) (fun hg=> ?_)
 have hr:uc r=true:=by
  revert hg
  cases uc r<;>simp
 have hs:=RM hr
 have hz:(!(r.nI==0))=true:=by simp;omega
 simp only[hz,ng,cond_true,Int.mul_comm 16]
def V3 (k_:Bytes→α) (x:rh):α:=
 let z0:Bytes:=(toStr ([[.int (IntKind.wrap .u8 x.Op)],[.int (IntKind.wrap .u8 x.Flags)]]))++(nW x.Len)
 let z1:Bytes:=z0++(pQ x.At)
 let z2:Bytes:=z1++(nW x.nI)
 let z3:Bytes:=z2++(nW x.uv)
 bif !(ntH x) then k_ []
 else bif Ec (Ec (Ec (Ec (Ec true (oC (toStr ([[.int (IntKind.wrap .u8 x.Op)],[.int (IntKind.wrap .u8 x.Flags)]])) (nW x.Len))) (oC z0 (pQ x.At))) (oC z1 (nW x.nI))) (oC z2 (nW x.uv))) (oC z3 (pQ 0)) then
   k_ (z3++(pQ 0))
  else kd
def TJ (x:rh):Bytes:=bif !(ntH x) then [] else toStr ([[.int (IntKind.wrap .u8 x.Op)],[.int (IntKind.wrap .u8 x.Flags)]])++nW x.Len++pQ x.At++nW x.nI++nW x.uv++pQ 0
theorem V2 (k_:Bytes→α) (x:rh):V3 kd k_ x=k_ (TJ x):=by
 have a:=ou x.Len
 have b:=qR x.At
 have c:=ou x.nI
 have d:=ou x.uv
 have e:=qR 0
 unfold V3 TJ
 refine qP (fun _=>rfl) (fun hg=> ?_)
 refine qL (by simp only[gn,oC,ss,List.length_append,rl,List.length_cons,List.length_nil,decide_eq_true_eq,true_and,and_true];omega) rfl
theorem ntC:∀(m a:Nat) (s:Bytes) (l:Rows),(nmT m a s l).length=l.length
 | 0,_,_,_=>rfl
 | m+1,a,s,l=>by
  unfold nmT
  cases decide (0<s.length)
  ·rfl
  ·rw[cond_true,ntC m]
   simp [Rk]
theorem nkx (m:na) (a:Int) (s:Bytes):(qY m a s).1.nK.length=m.nK.length:=by
 unfold qY
 cases !(within m a (len s))
 ·exact ntC _ _ _ _
 ·rfl
theorem ntv:∀(r:Rows) (s:Bytes) (l:Rows),(ns8 r s l).length=l.length
 | [],_,_=>rfl
 | r::rs,s,l=>by
  unfold ns8
  rw[ntv rs,nkx]
theorem nd2 (l:Rows) (m:na) (d a:Int) (s:Bytes) (w:Bool):(put l m d a s w).1.nK.length=m.nK.length:=by
 unfold put
 cases !(sM l m d a (len s) w).2
 ·exact ntv _ _ _
 ·rfl
theorem nw6 {l:Rows} {m:na} {d a:Int} {s:Bytes} {w:Bool} (h:(put l m d a s w).2=false):(put l m d a s w).1=m:=by
 unfold put at h ⊢
 cases hr:(sM l m d a (len s) w).2
 ·rfl
 ·rw[hr] at h;cases h
theorem nvx {b:Bool} (h:(!b)=false):b=true:=by cases b<;>simp_all
theorem xQ {b:Bool} (h:b=true):Ec true b=true:=by rw[h];rfl
theorem nmL {p:nQ} :(oP p).2=NP p:=by
 unfold oP
 cases hs:NP p
 ·rfl
 have he:nii (Xo p)=true:=by
  have hb:=nuu (nuq (⟨p.Tos,p.Id,p.Ttl,p.Ow.Kind,p.rk,p.rK,(tw p.rk p.rK p.Ow).1⟩:yM)) (show 46≤400 by omega)
  have h1:nj p.O2 0 281474976710655=true∧nj p.O5 0 281474976710655=true∧nj p.vt (-1) 4095=true:=by
   unfold NP PA at hs
   revert hs
   cases nj p.O2 0 281474976710655<;>cases nj p.O5 0 281474976710655<;>cases nj p.vt (-1) 4095<;>simp
  have h2:nj (len (Xo p).Body) 46 400=true:=pf.2 ⟨by simp only[len,Xo];omega,by simp only[len,Xo];omega⟩
  have h3:nj (Xo p).VU 1536 65535=true:=by rfl
  have h4:((Xo p).VU != 33024)=true:=by rfl
  unfold nii TA
  simp only[show nj (Xo p).Dst 0 281474976710655=true from h1.1,show nj (Xo p).Src 0 281474976710655=true from h1.2.1,show nj (Xo p).vt (-1) 4095=true from h1.2.2,h2,h3,h4,cond_true,id]
 simp only[Bool.not_true,cond_false]
 unfold yP
 rw[he]
 rfl
def V0 (k_:rh→Bool→α) (s:Bytes):α:=
 let z0:rh:=(⟨0,0,0,0,0,0⟩:rh)
 let z1:rh:=(⟨nS (y9 s 0),nS (y9 s 1),TL s 2,npM s 4,TL s 8,TL s 10⟩:rh)
 bif (len s) != 16 then k_ z0 false
 else bif Ec (Ec true (idx 0 s)) (idx 1 s) then
   bif !((TJ z1)==s) then k_ z0 false
   else k_ z1 true
  else kd
def descOf (s:Bytes):rh:=⟨nS (y9 s 0),nS (y9 s 1),TL s 2,npM s 4,TL s 8,TL s 10⟩
def pc (s:Bytes):rh×Bool:=bif (len s) != 16 then (⟨0,0,0,0,0,0⟩,false) else bif !((TJ (descOf s))==s) then (⟨0,0,0,0,0,0⟩,false) else (descOf s,true)
theorem VY (k_:rh→Bool→α) (s:Bytes):V0 kd k_ s=k_ (pc s).1 (pc s).2:=by
 unfold V0 pc
 dsimp only
 refine qP (K:=fun r:rh×Bool=>k_ r.1 r.2) (fun _=>rfl) (fun hg=> ?_)
 have h16:len s=16:=by simpa using hg
 have dR:∀j:Int,0≤j→j<16→idx j s=true:=by
  intro j h1 h2
  simp only[len] at h16
  simp only[idx,Bool.and_eq_true,decide_eq_true_eq]
  omega
 refine qL (by rw[dR 0 (by omega) (by omega),dR 1 (by omega) (by omega)];rfl) ?_
 exact J5 (K:=fun r:rh×Bool=>k_ r.1 r.2) rfl rfl
def naV (k_:Bytes→oc→Bool→α) (nc:Rows) (m:na) (domain:Int) (r:oc):α:=
 let z0:Bytes×Bool:=ya nc m domain (ud r r.Head) 16
 bif bif !(uc r) then true else (yS r)==0 then k_ [] r false
 else bif !z0.2 then k_ [] r false
 else bif Ec true (!((nS (2*r.nI))==0)) then
   k_ z0.1 (⟨r.oM,r.nI,Int.tmod (nS (r.Head+1)) (nS (2*r.nI)),r.sQ⟩:oc) true
  else kd
def qN (nc:Rows) (m:na) (domain:Int) (r:oc):Bytes×oc×Bool:=
 bif bif !(uc r) then true else (yS r)==0 then ([],r,false)
 else bif !(ya nc m domain (ud r r.Head) 16).2 then ([],r,false)
 else ((ya nc m domain (ud r r.Head) 16).1,⟨r.oM,r.nI,Int.tmod (nS (r.Head+1)) (nS (2*r.nI)),r.sQ⟩,true)
theorem naT (k_:Bytes→oc→Bool→α) (nc:Rows) (m:na) (domain:Int) (r:oc):naV kd k_ nc m domain r=k_ (qN nc m domain r).1 (qN nc m domain r).2.1 (qN nc m domain r).2.2:=by
 unfold naV qN
 dsimp only
 refine qP (K:=fun r:Bytes×oc×Bool=>k_ r.1 r.2.1 r.2.2) (fun _=>rfl) (fun hg=> ?_)
 refine qP (K:=fun r:Bytes×oc×Bool=>k_ r.1 r.2.1 r.2.2) (fun _=>rfl) (fun _=> ?_)
 have hr:uc r=true:=by
  revert hg
  cases uc r<;>simp
 have hs:=RM hr
 have hz:(!((nS (2*r.nI))==0))=true:=by
  rw[nJ (by omega) (by omega)]
  simp;omega
 refine qL (xQ hz) rfl
structure nG where
 uv:Int
 Len:Int
 nI:Int
 Count:Int
 nvH:Int
def nG.enc (x:nG):List DC:=[.int x.uv,.int x.Len,.int x.nI,.int x.Count,.int x.nvH]
def nG.nd (r:List DC) (o:Nat):nG:=⟨rI r (o+0),rI r (o+1),rI r (o+2),rI r (o+3),rI r (o+4)⟩
def nG.ct:List CT:=[.i,.i,.i,.i,.i]
theorem nG.eta {r:List DC} (h:ka nG.ct r):(nG.nd r 0).enc=r:=(show (nG.nd r 0).enc=tq nG.ct r 0 from by kernel_rfl).trans (rC h)
theorem nG.nz {r:List CT} {ds:List DC} (h:ka (nG.ct++r) ds):∃(x:nG) (aX:List DC),ds=x.enc++aX∧ka nG.ct x.enc∧ka r aX:=by
 obtain⟨d1,d2,rfl,h1,h2⟩:=qW h
 exact⟨nG.nd d1 0,d2,by rw[nG.eta h1],by rw[nG.eta h1];exact h1,h2⟩
theorem nG.ntE {x:nG} (h:ka nG.ct x.enc):G3 .i (.int x.uv):=oh 0 h rfl rfl
theorem nG.nxa {x:nG} (h:ka nG.ct x.enc):G3 .i (.int x.Len):=oh 1 h rfl rfl
theorem nG.nks {x:nG} (h:ka nG.ct x.enc):G3 .i (.int x.nI):=oh 2 h rfl rfl
theorem nG.nkr {x:nG} (h:ka nG.ct x.enc):G3 .i (.int x.Count):=oh 3 h rfl rfl
theorem w_ {q:nf} (h:ri q=true):vg q.nI=true∧2≤q.nI∧q.nI≤16∧0≤q.Count∧q.Count<2*q.nI∧0≤q.oM∧q.oM≤130944:=by
 unfold ri Py at h
 simp only[id] at h
 cases hb:nj q.oM 0 130944
 case false=>rw[hb] at h;cases h
 cases hs:vg q.nI
 case false=>rw[hb,hs] at h;cases h
 rw[hb,hs] at h
 have h4:2≤q.nI∧q.nI≤16:=by rcases wY hs with h | h | h | h<;>omega
 rw[nJ (n:=2*q.nI) (by omega) (by omega),nJ (n:=2*q.nI - 1) (by omega) (by omega)] at h
 have h5:=pf.1 (show nj q.Count 0 (2*q.nI - 1)=true from h)
 have h6:=pf.1 hb
 exact⟨rfl,by omega,by omega,by omega,by omega,h6.1,h6.2⟩
theorem nwj {q:nf} (h:ri q=true):ri ⟨q.oM,q.nI,Int.tmod (nS (q.Count+1)) (nS (2*q.nI))⟩=true:=by
 obtain⟨f1,f2,f3,f4,f5,f6,f7⟩:=w_ h
 have e:Int.tmod (nS (q.Count+1)) (nS (2*q.nI))=(q.Count+1) % (2*q.nI):=by
  rw[nJ (n:=q.Count+1) (by omega) (by omega),nJ (n:=2*q.nI) (by omega) (by omega)]
  exact Int.tmod_eq_emod_of_nonneg (by omega)
 have p1:=Int.emod_nonneg (q.Count+1) (show 2*q.nI≠0 by omega)
 have p2:=Int.emod_lt_of_pos (q.Count+1) (show 0<2*q.nI by omega)
 rw[e]
 unfold ri Py
 simp only[id]
 rw[nJ (n:=2*q.nI) (by omega) (by omega),nJ (n:=2*q.nI - 1) (by omega) (by omega),f1,show nj q.oM 0 130944=true from pf.2 ⟨f6,f7⟩,show nj ((q.Count+1) % (2*q.nI)) 0 (2*q.nI - 1)=true from pf.2 ⟨p1,by omega⟩]
 rfl
theorem nj1 {q:nk} (h:zg q=true):ri q.Device=true∧ri q.Driver=true∧uc q.Ring=true∧(q.uJ=true→NP q.qU.om=true):=by
 unfold zg nc2 at h
 cases h1:uc q.Ring
 case false=>rw[h1] at h;cases h
 cases h2:ri q.Device
 case false=>rw[h1,h2] at h;cases h
 cases h3:ri q.Driver
 case false=>rw[h1,h2,h3] at h;cases h
 refine⟨rfl,rfl,rfl,fun hh=> ?_⟩
 rw[h1,h2,h3,hh] at h
 cases hs:NP q.qU.om
 ·rw[hs] at h
  revert h
  cases (q.Device.oM != q.Driver.oM)<;>cases (q.Device.nI != q.Driver.nI)<;>cases nj q.yb 0 1000000000000<;>simp
 ·rfl
def SS {α:Type} (k_:Bool→α) (x:nG):α:=
 k_ (bif nj x.uv 0 65535 then bif nj x.Len 0 65535 then bif nj x.nI 0 65535 then bif nj x.Count 0 65535 then nj x.nvH 0 4294967295 else false else false else false else false)
def uI (x:nG):Bool:=SS id x
theorem SQ {α:Type} (k_:Bool→α) (x:nG):SS k_ x=k_ (uI x):=by
 rfl
def OT (k_:Bytes→α) (x:nG) (phase:Int):α:=
 let z0:Bytes:=(nW x.uv)++(nW x.Len)
 let z1:Bytes:=z0++(nW x.nI)
 let z2:Bytes:=z1++(nW x.Count)
 let z3:Bytes:=z2++(pQ x.nvH)
 bif bif !(uI x) then true else !(nj phase 0 1) then k_ []
 else bif Ec (Ec (Ec (Ec (Ec true (oC (nW x.uv) (nW x.Len))) (oC z0 (nW x.nI))) (oC z1 (nW x.Count))) (oC z2 (pQ x.nvH))) (oC z3 (pQ phase)) then
   k_ (z3++(pQ phase))
  else kd
def qT (x:nG) (phase:Int):Bytes:=bif bif !(uI x) then true else !(nj phase 0 1) then [] else nW x.uv++nW x.Len++nW x.nI++nW x.Count++pQ x.nvH++pQ phase
theorem OS (k_:Bytes→α) (x:nG) (phase:Int):OT kd k_ x phase=k_ (qT x phase):=by
 have a:=ou x.uv
 have b:=ou x.Len
 have c:=ou x.nI
 have d:=ou x.Count
 have e:=qR x.nvH
 have f:=qR phase
 unfold OT qT
 refine qP (fun _=>rfl) (fun hg=> ?_)
 refine qL (by simp only[gn,oC,ss,List.length_append,rl,List.length_cons,List.length_nil,decide_eq_true_eq,true_and,and_true];omega) rfl
def nfI {α:Type} (k_:nO→α) (p:nQ):α:=
 k_ (⟨p.Ow.Kind,p.rk,p.rK,p.Ow.ph,p.Ow.pg⟩:nO)
def nku (p:nQ):nO:=nfI id p
theorem nfG {α:Type} (k_:nO→α) (p:nQ):nfI k_ p=k_ (nku p):=by
 rfl
def Yb (k_:Bytes→α) (f:nO):α:=
 let z0:Bytes:=(pQ f.rk)++(pQ f.rK)
 let z1:Bytes:=z0++(nW f.ph)
 bif Ec (Ec (Ec true (oC (pQ f.rk) (pQ f.rK))) (oC z0 (nW f.ph))) (oC z1 (nW f.pg)) then
  k_ (z1++(nW f.pg))
 else kd
def nkv (f:nO):Bytes:=pQ f.rk++pQ f.rK++nW f.ph++nW f.pg
theorem Ya (k_:Bytes→α) (f:nO):Yb kd k_ f=k_ (nkv f):=by
 have a:=qR f.rk
 have b:=qR f.rK
 have c:=ou f.ph
 have d:=ou f.pg
 unfold Yb
 refine qL (by simp only[gn,oC,ss,List.length_append,rl,List.length_cons,List.length_nil,decide_eq_true_eq,true_and,and_true];omega) rfl
def Ui {α:Type} (k_:nA→α) (v:nA):α:=
 bif bif due v then !v.Qr else false then k_ (⟨v.yR,v.O3,v.Count,v.Time,v.Qr,true⟩:nA)
 else k_ v
def nky (v:nA):nA:=Ui id v
theorem nqj {α:Type} (k_:nA→α) (v:nA):Ui k_ v=k_ (nky v):=by
 exact J5 rfl rfl
def ncB {α:Type} (k_:nA→α) (v:nA):α:=
 k_ (⟨bif v.Qs then v.yR else bif due v then v.yR else v.yR,bif v.Qs then v.O3 else bif due v then v.O3 else v.O3,bif v.Qs then v.Count else bif due v then v.Count else v.Count,bif v.Qs then v.Time else bif due v then v.Time else v.Time,bif v.Qs then v.Qr else bif due v then v.Qr else v.Qr,bif v.Qs then true else bif due v then !v.Qr else false⟩:nA)
theorem npC {α:Type} (k_:nA→α) (v:nA):ncB k_ v=k_ (nky v):=by
 unfold ncB nky Ui
 obtain⟨a,b,c,d,e,f⟩:=v
 cases f
 ·cases due (⟨a,b,c,d,e,false⟩:nA)
  ·rfl
  ·cases e<;>rfl
 ·cases hd:(bif due (⟨a,b,c,d,e,true⟩:nA) then !(⟨a,b,c,d,e,true⟩:nA).Qr else false)<;>rfl
def Se {α:Type} (k_:nA→α) (v:nA):α:=
 bif !(tW v) then k_ v
 else k_ (nky (⟨v.yR,v.O3,v9 (nS (v.Count+1)) 1000000,v.Time,v.Qr,v.Qs⟩:nA))
def yO (v:nA):nA:=Se id v
theorem nnh {α:Type} (k_:nA→α) (v:nA):Se k_ v=k_ (yO v):=by
 exact J5 rfl rfl
def nbZ {α:Type} (k_:nA→α) (v:nA):α:=
 bif !(tW v) then k_ v
 else k_ (nky (⟨v.yR,v.O3,v9 1000000 (nS (v.Count+1)),v.Time,v.Qr,v.Qs⟩:nA))
theorem no3 {α:Type} (k_:nA→α) (v:nA):nbZ k_ v=k_ (yO v):=by
 unfold nbZ yO Se
 rw[nvP 1000000]
 exact J5 rfl rfl
def nfT (k_:Int→α) (s:Bytes) (i:Int):α:=
 let z0:Int:=nS (7 - (Int.tmod i 8))
 bif Ec (Ec true (idx (nS (Int.tdiv i 8)) s)) (decide (0≤z0)) then
  k_ (bits .and .i64 (nS (VS .u8 (y9 s (nS (Int.tdiv i 8))) z0)) 1)
 else kd
theorem ntx {x n:Int} (h0:0≤x) (h1:x<256) (n0:0≤n) (n1:n≤7):VS .u8 x n=VS .i64 x n∧nS (VS .i64 x n)=VS .i64 x n:=by
 have e1:VS .u8 x n=Int.fdiv x (2 ^ n.toNat):=by
  unfold VS
  rw[show min n.toNat IntKind.u8.bits=n.toNat from Nat.min_eq_left (by show n.toNat≤8;omega)]
 have e2:VS .i64 x n=Int.fdiv x (2 ^ n.toNat):=by
  unfold VS
  rw[show min n.toNat IntKind.i64.bits=n.toNat from Nat.min_eq_left (by show n.toNat≤64;omega)]
 refine⟨e1.trans e2.symm, ?_⟩
 rw[e2]
 have hp:(0:Int)≤2 ^ n.toNat:=Int.pow_nonneg (by omega)
 rw[Int.fdiv_eq_ediv_of_nonneg x hp]
 exact nJ (by have:=Int.ediv_nonneg h0 hp;omega) (by have:=Int.ediv_le_self (2 ^ n.toNat:Int) h0;omega)
def Wm (s:Bytes) (i:Int):Bool:=decide (0≤i) && decide (i<8*len s)
def nai (s:Bytes) (i:Int):Int:=bits .and .i64 (VS .i64 (y9 s (Int.tdiv i 8)) (7 - Int.tmod i 8)) 1
theorem nuH (s:Bytes) (i:Int):0≤nai s i∧nai s i<2:=by
 unfold nai
 rw[show bits .and .i64 (VS .i64 (y9 s (Int.tdiv i 8)) (7 - Int.tmod i 8)) 1=VS .i64 (y9 s (Int.tdiv i 8)) (7 - Int.tmod i 8) % 2 from ncG 1 (by decide) _]
 omega
theorem nsp (k_:Int→α) (s:Bytes) (i:Int) (Nr:G3 .str (.str s)) (h_i:G3 .i (.int i)) (aJ:Wm s i=true):nfT kd k_ s i=k_ (nai s i):=by
 have hl:=zf Nr
 have hi:=wy h_i
 simp only[Wm,Bool.and_eq_true,decide_eq_true_eq] at aJ
 simp only[len] at aJ
 have e1:Int.tdiv i 8=i / 8:=Int.tdiv_eq_ediv_of_nonneg (by omega)
 have e2:Int.tmod i 8=i % 8:=Int.tmod_eq_emod_of_nonneg (by omega)
 have b0:=x_ s (i / 8)
 have c0:=x9 s (i / 8)
 have w1:nS (i / 8)=i / 8:=nJ (by omega) (by omega)
 have w2:nS (7 - i % 8)=7 - i % 8:=nJ (by omega) (by omega)
 have w3:nS (y9 s (i / 8))=y9 s (i / 8):=nJ (by omega) (by omega)
 obtain⟨s1,s2⟩:=ntx b0 c0 (n:=7 - i % 8) (by omega) (by omega)
 have g1:idx (i / 8) s=true:=by simp only[idx,Bool.and_eq_true,decide_eq_true_eq];omega
 have g2:decide (0≤7 - i % 8)=true:=decide_eq_true (by omega)
 unfold nfT nai
 simp only[e1,e2,w1,w2,w3,s1,s2,g1,g2,ng,cond_true]
def ngE (k_:Int→α) (s:Bytes) (i:Int):α:=
 let z0:Int:=nS (7 - (Int.tmod i 8))
 bif Ec (Ec true (idx (nS (Int.tdiv i 8)) s)) (decide (0≤z0)) then
  k_ (bits .and .i64 (VS .i64 (nS (y9 s (nS (Int.tdiv i 8)))) z0) 1)
 else kd
theorem nti (k_:Int→α) (s:Bytes) (i:Int) (Nr:G3 .str (.str s)) (h_i:G3 .i (.int i)) (aJ:Wm s i=true):ngE kd k_ s i=k_ (nai s i):=by
 have hl:=zf Nr
 have hi:=wy h_i
 simp only[Wm,Bool.and_eq_true,decide_eq_true_eq] at aJ
 simp only[len] at aJ
 have e1:Int.tdiv i 8=i / 8:=Int.tdiv_eq_ediv_of_nonneg (by omega)
 have e2:Int.tmod i 8=i % 8:=Int.tmod_eq_emod_of_nonneg (by omega)
 have b0:=x_ s (i / 8)
 have c0:=x9 s (i / 8)
 have w1:nS (i / 8)=i / 8:=nJ (by omega) (by omega)
 have w2:nS (7 - i % 8)=7 - i % 8:=nJ (by omega) (by omega)
 have w3:nS (y9 s (i / 8))=y9 s (i / 8):=nJ (by omega) (by omega)
 obtain⟨s1,s2⟩:=ntx b0 c0 (n:=7 - i % 8) (by omega) (by omega)
 have g1:idx (i / 8) s=true:=by simp only[idx,Bool.and_eq_true,decide_eq_true_eq];omega
 have g2:decide (0≤7 - i % 8)=true:=decide_eq_true (by omega)
 unfold ngE nai
 simp only[e1,e2,w1,w2,w3,s1,s2,g1,g2,ng,cond_true]
def yf (k_:Int→α) (key:Bytes) (bit:Int) (oL:Int→Int→α) (n i:Int):α:=
 bif decide (i<nS (bit+32)) then
  bif Ec true (Wm key i) then
   oL (bits .or .i64 (nfz .i64 n 1) (nai key i)) (nS (i+1))
  else kd
 else k_ n
def ye (k_:Int→α) (N:Nat) (key:Bytes) (bit:Int) (m_:Nat):Int→Int→α:=
 Nat.rec (motive:=fun _=>Int→Int→α) (fun _ _=>kd) (fun _ oL=>yf kd k_ key bit oL) m_
theorem SX (k_:Int→α) (N:Nat) (key:Bytes) (bit:Int) (m_:Nat):ye kd k_ N key bit (m_+1)=yf kd k_ key bit (ye kd k_ N key bit m_):=rfl
def Qw {α:Type} (kd:α) (k_:Int→α) (l0:Int→Int→α) (key:Bytes) (bit:Int):α:=
 bif bif (len key) != 16 then true else !(nj bit 0 96) then k_ (-1)
 else l0 0 bit
def Yh (k_:Int→α) (N:Nat) (key:Bytes) (bit:Int):α:=Qw kd k_ (ye kd k_ N key bit N) key bit
theorem nvy:∀j:Nat,j<33→(2:Int) ^ j≤4294967296:=by decide
def kwF (key:Bytes) (bit:Int) (j:Nat) (n:Int):Int:=n*2+nai key (bit+(j:Int))
def Qq (key:Bytes) (bit:Int):Int:=bif bif (len key) != 16 then true else !(nj bit 0 96) then -1 else itN (kwF key bit) 32 0 0
theorem nkK (k_:Int→α) (key:Bytes) (bit:Int):∃N,Yh kd k_ N key bit=k_ (Qq key bit):=by
 unfold Yh Qw Qq
 refine⟨33, ?_⟩
 refine qP (fun _=>rfl) (fun hg=> ?_)
 have h16:len key=16:=by
  revert hg
  cases h:(len key) != 16
  ·intro _;simpa using h
  ·intro h;cases h
 have hb:nj bit 0 96=true:=by
  revert hg
  cases (len key) != 16<;>cases nj bit 0 96<;>simp
 have hb:=pf.1 hb
 have key:∀(m j:Nat) (n:Int) (N:Nat),j+m=32→m<N→0≤n→n<2 ^ j→ye kd k_ 33 key bit N n (bit+(j:Int))=k_ (itN (kwF key bit) m j n):=by
  intro m
  induction m with
  | zero=>
   intro j n N h1 h2 h3 h4
   obtain⟨N,rfl⟩:∃q,N=q+1:=⟨N - 1,by omega⟩
   have hj:(j:Int)=32:=by omega
   rw[SX]
   have w1:nS (bit+32)=bit+32:=nJ (by omega) (by omega)
   have hf:decide (bit+(j:Int)<bit+32)=false:=decide_eq_false (by omega)
   simp only[yf,w1,hf,cond_false,itN]
  | succ m ih=>
   intro j n N h1 h2 h3 h4
   obtain⟨N,rfl⟩:∃q,N=q+1:=⟨N - 1,by omega⟩
   have hk:=nuH key (bit+(j:Int))
   have hp:=nvy j (by omega)
   have hq:=nvy (j+1) (by omega)
   have hs:(2:Int) ^ (j+1)=2 ^ j*2:=Int.pow_succ 2 j
   have g1:Wm key (bit+(j:Int))=true:=by simp only[Wm,Bool.and_eq_true,decide_eq_true_eq];omega
   have this:=ih (j+1) (n*2+nai key (bit+(j:Int))) N (by omega) (by omega) (by omega) (by omega)
   rw[SX]
   have w1:nS (bit+32)=bit+32:=nJ (by omega) (by omega)
   have w2:nS (bit+(j:Int)+1)=bit+((j+1:Nat):Int):=by rw[nJ (by omega) (by omega)];omega
   have ht:decide (bit+(j:Int)<bit+32)=true:=decide_eq_true (by omega)
   have e1:bits .or .i64 (nfz .i64 n 1) (nai key (bit+(j:Int)))=n*2+nai key (bit+(j:Int)):=by
    rw[show nfz .i64 n 1=nS (n*2) from rfl,nJ (n:=n*2) (by omega) (by omega)]
    exact ne1 1 (by omega) (by omega) (by omega) (by omega) (by omega) (by omega)
   simp only[yf,w1,w2,ht,e1,g1,ng,cond_true]
   exact this
 have:=key 32 0 0 33 (by omega) (by omega) (by omega) (by decide)
 exact (by rw[show bit+((0:Nat):Int)=bit by omega] at this;exact this)
def yG (k_:Int→α) (key:Bytes) (bit:Int) (oL:Int→Int→α) (x k:Int):α:=
 bif decide (k<32) then
  bif Ec true (Wm key (nS (bit+k))) then
   oL (nS ((nS (2*x))+(nai key (nS (bit+k))))) (nS (k+1))
  else kd
 else k_ x
def yF (k_:Int→α) (N:Nat) (key:Bytes) (bit:Int) (m_:Nat):Int→Int→α:=
 Nat.rec (motive:=fun _=>Int→Int→α) (fun _ _=>kd) (fun _ oL=>yG kd k_ key bit oL) m_
theorem Ts (k_:Int→α) (N:Nat) (key:Bytes) (bit:Int) (m_:Nat):yF kd k_ N key bit (m_+1)=yG kd k_ key bit (yF kd k_ N key bit m_):=rfl
def Rf {α:Type} (kd:α) (k_:Int→α) (l0:Int→Int→α) (key:Bytes) (bit:Int):α:=
 bif bif (len key) != 16 then true else !(nj bit 0 96) then k_ (-1)
 else l0 0 0
def ZY (k_:Int→α) (N:Nat) (key:Bytes) (bit:Int):α:=Rf kd k_ (yF kd k_ N key bit N) key bit
theorem nmx (k_:Int→α) (key:Bytes) (bit:Int):∃N,ZY kd k_ N key bit=k_ (Qq key bit):=by
 unfold ZY Rf Qq
 refine⟨33, ?_⟩
 refine qP (fun _=>rfl) (fun hg=> ?_)
 have h16:len key=16:=by
  revert hg
  cases h:(len key) != 16
  ·intro _;simpa using h
  ·intro h;cases h
 have hb:nj bit 0 96=true:=by
  revert hg
  cases (len key) != 16<;>cases nj bit 0 96<;>simp
 have hb:=pf.1 hb
 have key:∀(m j:Nat) (n:Int) (N:Nat),j+m=32→m<N→0≤n→n<2 ^ j→yF kd k_ 33 key bit N n (j:Int)=k_ (itN (kwF key bit) m j n):=by
  intro m
  induction m with
  | zero=>
   intro j n N h1 h2 h3 h4
   obtain⟨N,rfl⟩:∃q,N=q+1:=⟨N - 1,by omega⟩
   have hj:(j:Int)=32:=by omega
   rw[Ts]
   have hf:decide ((j:Int)<32)=false:=decide_eq_false (by omega)
   simp only[yG,hf,cond_false,itN]
  | succ m ih=>
   intro j n N h1 h2 h3 h4
   obtain⟨N,rfl⟩:∃q,N=q+1:=⟨N - 1,by omega⟩
   have hk:=nuH key (bit+(j:Int))
   have hp:=nvy j (by omega)
   have hq:=nvy (j+1) (by omega)
   have hs:(2:Int) ^ (j+1)=2 ^ j*2:=Int.pow_succ 2 j
   have g1:Wm key (bit+(j:Int))=true:=by simp only[Wm,Bool.and_eq_true,decide_eq_true_eq];omega
   have this:=ih (j+1) (n*2+nai key (bit+(j:Int))) N (by omega) (by omega) (by omega) (by omega)
   rw[Ts]
   have w2:nS ((j:Int)+1)=((j+1:Nat):Int):=by rw[nJ (by omega) (by omega)];omega
   have w3:nS (bit+(j:Int))=bit+(j:Int):=nJ (by omega) (by omega)
   have w4:nS (2*n)=n*2:=by rw[nJ (by omega) (by omega)];omega
   have w5:nS (n*2+nai key (bit+(j:Int)))=n*2+nai key (bit+(j:Int)):=nJ (by omega) (by omega)
   have ht:decide ((j:Int)<32)=true:=decide_eq_true (by omega)
   simp only[yG,w2,w3,w4,w5,ht,g1,ng,cond_true]
   exact this
 have:=key 32 0 0 33 (by omega) (by omega) (by omega) (by decide)
 exact this
def yd (k_:Int→α) (key input:Bytes) (oL:Int→Int→α) (h i:Int):α:=
 bif decide (i<nS (8*(len input))) then
  bif Ec true (Wm input i) then
   oL (bif (nai input i)==1 then bits .xor .i64 h (Qq key i) else h) (nS (i+1))
  else kd
 else k_ h
def um (k_:Int→α) (N:Nat) (key input:Bytes) (m_:Nat):Int→Int→α:=
 Nat.rec (motive:=fun _=>Int→Int→α) (fun _ _=>kd) (fun _ oL=>yd kd k_ key input oL) m_
theorem SU (k_:Int→α) (N:Nat) (key input:Bytes) (m_:Nat):um kd k_ N key input (m_+1)=yd kd k_ key input (um kd k_ N key input m_):=rfl
def zn {α:Type} (kd:α) (k_:Int→α) (l0:Int→Int→α) (key input:Bytes):α:=
 bif bif (len key) != 16 then true else decide (12<len input) then k_ (-1)
 else l0 0 0
def X_ (k_:Int→α) (N:Nat) (key input:Bytes):α:=zn kd k_ (um kd k_ N key input N) key input
def hbF (key input:Bytes) (i:Nat) (h:Int):Int:=bif (nai input (i:Int))==1 then bits .xor .i64 h (Qq key (i:Int)) else h
def neT (key input:Bytes):Int:=bif bif (len key) != 16 then true else decide (12<len input) then -1 else itN (hbF key input) (8*input.length) 0 0
theorem X9 (k_:Int→α) (key input:Bytes) (nio:G3 .str (.str input)):∃N,X_ kd k_ N key input=k_ (neT key input):=by
 have hl:=zf nio
 unfold X_ zn neT
 refine⟨8*input.length+1, ?_⟩
 refine qP (fun _=>rfl) (fun hg=> ?_)
 have h12:input.length≤12:=by
  revert hg
  cases (len key) != 16
  ·intro h
   have:=of_decide_eq_false h
   simp only[len] at this
   omega
  ·intro h;cases h
 have w1:nS (8*(len input))=((8*input.length:Nat):Int):=by rw[nJ (by simp only[len];omega) (by simp only[len];omega)];simp only[len];omega
 refine (xL (8*input.length) (fun n i (h:Int)=>um kd k_ (8*input.length+1) key input n h i) (hbF key input) k_ (fun _ _=>True) (fun _ _ _ _=>trivial) ?_ ?_ (8*input.length+1) 0 trivial (by omega))
 ·intro n i h hi _
  show um kd k_ (8*input.length+1) key input (n+1) h (i:Int)=_
  rw[SU]
  have g1:Wm input (i:Int)=true:=by simp only[Wm,Bool.and_eq_true,decide_eq_true_eq];simp only[len];omega
  have w2:nS ((i:Int)+1)=(i:Int)+1:=nJ (by omega) (by omega)
  have ht:decide ((i:Int)<((8*input.length:Nat):Int))=true:=decide_eq_true (by omega)
  simp only[yd,w1,w2,ht,g1,ng,cond_true]
  rfl
 ·intro n h _
  show um kd k_ (8*input.length+1) key input (n+1) h ((8*input.length:Nat):Int)=_
  rw[SU]
  have hf:decide (((8*input.length:Nat):Int)<((8*input.length:Nat):Int))=false:=decide_eq_false (by omega)
  simp only[yd,w1,hf,cond_false]
def naH {α:Type} (k_:Int→α) (key:Bytes) (f:nO):α:=
 k_ (neT key (nkv f))
def XX (key:Bytes) (f:nO):Int:=naH id key f
theorem naF {α:Type} (k_:Int→α) (key:Bytes) (f:nO):naH k_ key f=k_ (XX key f):=by
 rfl
def Ut {α:Type} (k_:Int→α) (q:nf):α:=
 bif decide (q.Count<q.nI) then k_ 1
 else k_ 0
def xt (q:nf):Int:=Ut id q
theorem nqo {α:Type} (k_:Int→α) (q:nf):Ut k_ q=k_ (xt q):=by
 exact J5 rfl rfl
def ncy (k_:Int→α) (q:nf):α:=
 bif Ec true (!(q.nI==0)) then
  k_ (nS (1 - (nS (Int.tdiv q.Count q.nI))))
 else kd
theorem npy (k_:Int→α) (q:nf) (aJ:ri q=true):ncy kd k_ q=k_ (xt q):=by
 obtain⟨f1,f2,f3,f4,f5,f6,f7⟩:=w_ aJ
 have hz:(!(q.nI==0))=true:=by simp;omega
 unfold ncy xt Ut
 refine qL (xQ hz) ?_
 have e:nS (1 - nS (Int.tdiv q.Count q.nI))=bif decide (q.Count<q.nI) then 1 else 0:=by
  rw[Int.tdiv_eq_ediv_of_nonneg f4]
  generalize q.Count=c at*
  by_cases h:c<q.nI
  ·rw[decide_eq_true h,Int.ediv_eq_zero_of_lt f4 h];rfl
  ·rw[decide_eq_false h]
   have:c / q.nI=1:=by
    rcases wY f1 with h2 | h2 | h2 | h2<;>rw[h2] at h f5 ⊢ <;>omega
   rw[this];rfl
 rw[e]
 cases decide (q.Count<q.nI)<;>rfl
def Uv (k_:Int→α) (q:nf):α:=
 bif Ec true (!(q.nI==0)) then
  k_ (nS (q.oM+(nS ((Int.tmod q.Count q.nI)*16))))
 else kd
def RH (q:nf):Int:=nS (q.oM+nS (Int.tmod q.Count q.nI*16))
theorem nha (k_:Int→α) (q:nf) (aJ:ri q=true):Uv kd k_ q=k_ (RH q):=by
 obtain⟨f1,f2,f3,f4,f5,f6,f7⟩:=w_ aJ
 have hz:(!(q.nI==0))=true:=by simp;omega
 unfold Uv
 exact qL (xQ hz) rfl
def RT (k_:na→nf→Bool→α) (nc:Rows) (m:na) (domain:Int) (q:nf) (x:nG):α:=
 let z0:na×Bool:=rm nc m domain (RH q) (qT x (xt q))
 bif bif !(ri q) then true else !(uI x) then
  bif Ec true (s_ m) then
   k_ (oB m) q false
  else kd
 else bif Ec (Ec true (ri q)) (sT nc m domain (RH q) (qT x (xt q))) then
   bif !z0.2 then k_ z0.1 q false
   else bif Ec true (!((nS (2*q.nI))==0)) then
     k_ z0.1 (⟨q.oM,q.nI,Int.tmod (nS (q.Count+1)) (nS (2*q.nI))⟩:nf) true
    else kd
  else kd
def qH (nc:Rows) (m:na) (domain:Int) (q:nf) (x:nG):na×nf×Bool:=
 bif bif !(ri q) then true else !(uI x) then (m,q,false)
 else bif !(rm nc m domain (RH q) (qT x (xt q))).2 then (m,q,false)
 else ((rm nc m domain (RH q) (qT x (xt q))).1,⟨q.oM,q.nI,Int.tmod (nS (q.Count+1)) (nS (2*q.nI))⟩,true)
def zT {α β:Type} (nc:Rows) (m:na) (domain:Int) (q:α) (x:β):Bool:=s_ m
theorem ngG (l:Rows) (m:na) (d:Int) (q:nf) (x:nG):(qH l m d q x).1.nK.length=m.nK.length:=by
 unfold qH
 cases (bif !(ri q) then true else !(uI x))
 ·cases (rm l m d (RH q) (qT x (xt q))).2
  ·rfl
  ·exact nd2 _ _ _ _ _ _
 ·rfl
theorem nnf {l:Rows} {m:na} {d:Int} {q:nf} {x:nG} (h:ri q=true):ri (qH l m d q x).2.1=true:=by
 unfold qH
 cases (bif !(ri q) then true else !(uI x))
 ·cases (rm l m d (RH q) (qT x (xt q))).2
  ·exact h
  ·exact nwj h
 ·exact h
theorem ncU (k_:na→nf→Bool→α) (nc:Rows) (m:na) (domain:Int) (q:nf) (x:nG) (aJ:zT nc m domain q x=true):RT kd k_ nc m domain q x=k_ (qH nc m domain q x).1 (qH nc m domain q x).2.1 (qH nc m domain q x).2.2:=by
 have hm:s_ m=true:=aJ
 have hdw:∀a s,sT nc m domain a s=true:=fun a s=>aJ
 unfold RT qH
 dsimp only
 refine qP (K:=fun r:na×nf×Bool=>k_ r.1 r.2.1 r.2.2) (fun _=>by rw[hm];rfl) (fun hg=> ?_)
 have hq:ri q=true:=by
  revert hg
  cases ri q<;>simp
 obtain⟨f1,f2,f3,f4,f5,f6,f7⟩:=w_ hq
 have hz:(!((nS (2*q.nI))==0))=true:=by
  rw[nJ (by omega) (by omega)]
  simp;omega
 have Jk:(!(q.nI==0))=true:=by simp;omega
 refine qL (by rw[hq,hdw];rfl) ?_
 refine qP (K:=fun r:na×nf×Bool=>k_ r.1 r.2.1 r.2.2) (fun hn=> ?_) (fun _=>qL (xQ hz) rfl)
 have hn:(rm nc m domain (RH q) (qT x (xt q))).2=false:=by simpa using hn
 rw[show (rm nc m domain (RH q) (qT x (xt q))).1=m from nw6 hn]
def R6 (k_:na→nf→Bool→α) (nc:Rows) (m:na) (domain:Int) (q:nf) (x:nG):α:=
 let z0:Int:=nS (q.oM+(nS (16*(Int.tmod q.Count q.nI))))
 let z1:na×Bool:=rm nc m domain z0 (qT x (xt q))
 bif bif !(ri q) then true else !(uI x) then
  bif Ec true (s_ m) then
   k_ (oB m) q false
  else kd
 else bif Ec (Ec (Ec true (!(q.nI==0))) (ri q)) (sT nc m domain z0 (qT x (xt q))) then
   bif !z1.2 then
    bif Ec true (s_ m) then
     k_ (oB m) q false
    else kd
   else bif Ec true (!((nS (2*q.nI))==0)) then
     k_ z1.1 (⟨q.oM,q.nI,Int.tmod (nS (q.Count+1)) (nS (2*q.nI))⟩:nf) true
    else kd
  else kd
theorem nd9 (k_:na→nf→Bool→α) (nc:Rows) (m:na) (domain:Int) (q:nf) (x:nG) (aJ:zT nc m domain q x=true):R6 kd k_ nc m domain q x=k_ (qH nc m domain q x).1 (qH nc m domain q x).2.1 (qH nc m domain q x).2.2:=by
 have hm:s_ m=true:=aJ
 have hdw:∀a s,sT nc m domain a s=true:=fun a s=>aJ
 unfold R6 qH
 dsimp only
 refine qP (K:=fun r:na×nf×Bool=>k_ r.1 r.2.1 r.2.2) (fun _=>by rw[hm];rfl) (fun hg=> ?_)
 have hq:ri q=true:=by
  revert hg
  cases ri q<;>simp
 obtain⟨f1,f2,f3,f4,f5,f6,f7⟩:=w_ hq
 have hz:(!((nS (2*q.nI))==0))=true:=by
  rw[nJ (by omega) (by omega)]
  simp;omega
 have Jk:(!(q.nI==0))=true:=by simp;omega
 rw[Int.mul_comm 16]
 refine qL (by rw[hq,Jk,hdw];rfl) ?_
 refine qP (K:=fun r:na×nf×Bool=>k_ r.1 r.2.1 r.2.2) (fun hn=>qL (xQ hm) rfl) (fun _=>qL (xQ hz) rfl)
def ncA (k_:na→nf→Bool→α) (nc:Rows) (m:na) (domain:Int) (q:nk) (entry key:Bytes):α:=
 let z0:Int:=len ((oP q.qU.om).1)
 let z1:na×Bool:=rm nc m domain (((pc entry).1).At) ((oP q.qU.om).1)
 let z2:na:=z1.1
 let z3:nG:=(⟨((pc entry).1).uv,z0,q.qU.nI,q.qU.Count,XX key (nku q.qU.om)⟩:nG)
 let z4:na×nf×Bool:=qH nc z2 domain q.Device z3
 bif bif !((pc entry).2) then true else bif (((pc entry).1).Op) != 3 then true else decide (((pc entry).1).Len<z0) then
  bif Ec true (s_ m) then
   k_ (oB m) q.Device false
  else kd
 else bif Ec true (sT nc m domain (((pc entry).1).At) ((oP q.qU.om).1)) then
   bif !z1.2 then
    bif Ec true (s_ m) then
     k_ (oB m) q.Device false
    else kd
   else bif Ec true (zT nc z2 domain q.Device z3) then
     k_ z4.1 z4.2.1 z4.2.2
    else kd
  else kd
def sw (nc:Rows) (m:na) (domain:Int) (q:nk) (entry key:Bytes):na×nf×Bool:=
 bif bif !(pc entry).2 then true else bif (pc entry).1.Op != 3 then true else decide ((pc entry).1.Len<len (oP q.qU.om).1) then (m,q.Device,false)
 else bif !(rm nc m domain (pc entry).1.At (oP q.qU.om).1).2 then (m,q.Device,false)
 else qH nc (rm nc m domain (pc entry).1.At (oP q.qU.om).1).1 domain q.Device ⟨(pc entry).1.uv,len (oP q.qU.om).1,q.qU.nI,q.qU.Count,XX key (nku q.qU.om)⟩
def Xd {α β γ:Type} (nc:Rows) (m:na) (domain:Int) (q:α) (a:β) (b:γ):Bool:=s_ m
theorem nsz (l:Rows) (m:na) (d:Int) (q:nk) (e key:Bytes):(sw l m d q e key).1.nK.length=m.nK.length:=by
 unfold sw
 cases (bif !(pc e).2 then true else bif (pc e).1.Op != 3 then true else decide ((pc e).1.Len<len (oP q.qU.om).1))
 ·cases (rm l m d (pc e).1.At (oP q.qU.om).1).2
  ·rfl
  ·exact (ngG _ _ _ _ _).trans (nd2 _ _ _ _ _ _)
 ·rfl
theorem nvb {l:Rows} {m:na} {d:Int} {q:nk} {e key:Bytes} (h:ri q.Device=true):ri (sw l m d q e key).2.1=true:=by
 unfold sw
 cases (bif !(pc e).2 then true else bif (pc e).1.Op != 3 then true else decide ((pc e).1.Len<len (oP q.qU.om).1))
 ·cases (rm l m d (pc e).1.At (oP q.qU.om).1).2
  ·exact h
  ·exact nnf h
 ·exact h
def qZ (nc:Rows) (m:na) (domain:Int) (q:nk) (key entry:Bytes):na×nf×Bool:=bif !(oP q.qU.om).2 then (m,q.Device,false) else sw nc m domain q entry key
theorem npA (k_:na→nf→Bool→α) (nc:Rows) (m:na) (domain:Int) (q:nk) (entry key:Bytes) (aJ:Xd nc m domain q entry key=true):ncA kd k_ nc m domain q entry key=k_ (sw nc m domain q entry key).1 (sw nc m domain q entry key).2.1 (sw nc m domain q entry key).2.2:=by
 have hm:s_ m=true:=aJ
 have hdw:∀a s,sT nc m domain a s=true:=fun a s=>aJ
 have hpm:∀a s (x:nG),zT nc (rm nc m domain a s).1 domain q.Device x=true:=fun a s x=>decide_eq_true (by
  show (put nc m domain a s true).1.nK.length≤16777216
  rw[nd2]
  exact uG aJ)
 unfold ncA sw
 dsimp only
 refine qP (K:=fun r:na×nf×Bool=>k_ r.1 r.2.1 r.2.2) (fun _=>qL (xQ hm) rfl) (fun hg=> ?_)
 refine qL (xQ (hdw _ _)) ?_
 refine qP (K:=fun r:na×nf×Bool=>k_ r.1 r.2.1 r.2.2) (fun _=>qL (xQ hm) rfl) (fun _=> ?_)
 exact qL (xQ (hpm _ _ _)) rfl
def Ys (k_:na→nf→Bool→α) (nc:Rows) (m:na) (domain:Int) (q:nk) (key entry:Bytes):α:=
 let z0:Int:=len ((oP q.qU.om).1)
 let z1:na×Bool:=rm nc m domain (((pc entry).1).At) ((oP q.qU.om).1)
 let z2:na:=z1.1
 let z3:nG:=(⟨((pc entry).1).uv,z0,q.qU.nI,q.qU.Count,XX key (nku q.qU.om)⟩:nG)
 let z4:na×nf×Bool:=qH nc z2 domain q.Device z3
 bif bif !((pc entry).2) then true else bif !((oP q.qU.om).2) then true else bif (((pc entry).1).Op) != 3 then true else decide (((pc entry).1).Len<z0) then k_ m q.Device false
 else bif Ec true (sT nc m domain (((pc entry).1).At) ((oP q.qU.om).1)) then
   bif !z1.2 then k_ m q.Device false
   else bif Ec true (zT nc z2 domain q.Device z3) then
     k_ z4.1 z4.2.1 z4.2.2
    else kd
  else kd
theorem nkZ (k_:na→nf→Bool→α) (nc:Rows) (m:na) (domain:Int) (q:nk) (key entry:Bytes) (aJ:Xd nc m domain q key entry=true):Ys kd k_ nc m domain q key entry=k_ (qZ nc m domain q key entry).1 (qZ nc m domain q key entry).2.1 (qZ nc m domain q key entry).2.2:=by
 have hm:s_ m=true:=aJ
 have hdw:∀a s,sT nc m domain a s=true:=fun a s=>aJ
 have hpm:∀a s (x:nG),zT nc (rm nc m domain a s).1 domain q.Device x=true:=fun a s x=>decide_eq_true (by
  show (put nc m domain a s true).1.nK.length≤16777216
  rw[nd2]
  exact uG aJ)
 unfold Ys qZ
 dsimp only
 have hc:∀a b c:Bool,(bif a then true else bif !(oP q.qU.om).2 then true else bif b then true else c)=(bif !(oP q.qU.om).2 then true else bif a then true else bif b then true else c):=by
  intro a b c
  cases a<;>cases (oP q.qU.om).2<;>rfl
 rw[hc]
 cases (oP q.qU.om).2
 ·rfl
 simp only[Bool.not_true,cond_false]
 unfold sw
 refine qP (K:=fun r:na×nf×Bool=>k_ r.1 r.2.1 r.2.2) (fun _=>rfl) (fun hg=> ?_)
 refine qL (xQ (hdw _ _)) ?_
 refine qP (K:=fun r:na×nf×Bool=>k_ r.1 r.2.1 r.2.2) (fun _=>rfl) (fun _=> ?_)
 exact qL (xQ (hpm _ _ _)) rfl
def Ux (k_:na→nf→Bool→α) (nc:Rows) (m:na) (domain:Int) (q:nk) (key entry:Bytes):α:=
 let z0:Int:=len ((oP q.qU.om).1)
 let z1:na×Bool:=rm nc m domain (((pc entry).1).At) ((oP q.qU.om).1)
 let z2:na:=z1.1
 let z3:nG:=(⟨((pc entry).1).uv,z0,q.qU.nI,q.qU.Count,XX key (nku q.qU.om)⟩:nG)
 let z4:na×nf×Bool:=qH nc z2 domain q.Device z3
 bif bif !((pc entry).2) then true else bif !((oP q.qU.om).2) then true else bif (((pc entry).1).Op) != 3 then true else decide (((pc entry).1).Len<z0) then
  bif false then
   k_ m q.Device false
  else kd
 else bif Ec true (sT nc m domain (((pc entry).1).At) ((oP q.qU.om).1)) then
   bif !z1.2 then
    bif false then
     k_ m q.Device false
    else kd
   else bif Ec true (zT nc z2 domain q.Device z3) then
     k_ z4.1 z4.2.1 z4.2.2
    else kd
  else kd
def nmK (nc:Rows) (m:na) (domain:Int) (q:nk) (key entry:Bytes):Bool:=Xd nc m domain q key entry && (qZ nc m domain q key entry).2.2
theorem nhc (k_:na→nf→Bool→α) (nc:Rows) (m:na) (domain:Int) (q:nk) (key entry:Bytes) (aJ:nmK nc m domain q key entry=true):Ux kd k_ nc m domain q key entry=k_ (qZ nc m domain q key entry).1 (qZ nc m domain q key entry).2.1 (qZ nc m domain q key entry).2.2:=by
 obtain⟨aJ,hs⟩:Xd nc m domain q key entry=true∧(qZ nc m domain q key entry).2.2=true:=by simpa only[nmK,Bool.and_eq_true] using aJ
 unfold qZ sw at hs
 have hm:s_ m=true:=aJ
 have hdw:∀a s,sT nc m domain a s=true:=fun a s=>aJ
 have hpm:∀a s (x:nG),zT nc (rm nc m domain a s).1 domain q.Device x=true:=fun a s x=>decide_eq_true (by
  show (put nc m domain a s true).1.nK.length≤16777216
  rw[nd2]
  exact uG aJ)
 unfold Ux qZ
 dsimp only
 have hc:∀a b c:Bool,(bif a then true else bif !(oP q.qU.om).2 then true else bif b then true else c)=(bif !(oP q.qU.om).2 then true else bif a then true else bif b then true else c):=by
  intro a b c
  cases a<;>cases (oP q.qU.om).2<;>rfl
 rw[hc]
 cases hB:(oP q.qU.om).2
 ·rw[hB] at hs
  cases hs
 rw[hB] at hs
 simp only[Bool.not_true,cond_false] at hs ⊢
 unfold sw
 refine qP (K:=fun r:na×nf×Bool=>k_ r.1 r.2.1 r.2.2) (fun hg=> ?_) (fun hg=> ?_)
 ·rw[hg] at hs
  cases hs
 rw[hg,cond_false] at hs
 refine qL (xQ (hdw _ _)) ?_
 refine qP (K:=fun r:na×nf×Bool=>k_ r.1 r.2.1 r.2.2) (fun hw=> ?_) (fun _=> ?_)
 ·rw[hw] at hs
  cases hs
 exact qL (xQ (hpm _ _ _)) rfl
def T3 (k_:na→nk→α) (nc:Rows) (m:na) (domain:Int) (q:nk) (key:Bytes):α:=
 let z0:Bytes×oc×Bool:=qN nc m domain q.Ring
 let z1:na×nf×Bool:=qZ nc m domain q key z0.1
 let z2:po:=(⟨(⟨0,0,0,0,0,0,0,0,(⟨0,0,0,0,0,0,0,[]⟩:nF)⟩:nQ),0,0⟩:po)
 let z3:Int:=nS (q.yb+q.qU.Count)
 bif bif !(zg q) then true else bif !q.uJ then true else (len key) != 16 then
  bif Ec true (s_ m) then
   k_ (oB m) q
  else kd
 else bif z0.2.2 then
  bif Ec true (nmK nc m domain q key z0.1) then
   bif z1.2.2 then k_ z1.1 (⟨z0.2.1,z1.2.1,q.Driver,z2,false,q.yb⟩:nk)
   else bif Ec true (s_ m) then
     k_ (oB m) (⟨z0.2.1,q.Device,q.Driver,z2,false,z3⟩:nk)
    else kd
  else kd
 else bif Ec true (s_ m) then
   k_ (oB m) (⟨q.Ring,q.Device,q.Driver,z2,false,z3⟩:nk)
  else kd
def nwn:po:=⟨⟨0,0,0,0,0,0,0,0,⟨0,0,0,0,0,0,0,[]⟩⟩,0,0⟩
def ncH {α β:Type} (nc:Rows) (m:na) (domain:Int) (q:α) (key:β):Bool:=s_ m
def qQ (nc:Rows) (m:na) (domain:Int) (q:nk) (key:Bytes):na×nk:=
 bif bif !(zg q) then true else bif !q.uJ then true else (len key) != 16 then (m,q)
 else bif bif (qN nc m domain q.Ring).2.2 then (sw nc m domain q (qN nc m domain q.Ring).1 key).2.2 else false then
  ((sw nc m domain q (qN nc m domain q.Ring).1 key).1,⟨(qN nc m domain q.Ring).2.1,(sw nc m domain q (qN nc m domain q.Ring).1 key).2.1,q.Driver,nwn,false,q.yb⟩)
 else (m,⟨(qN nc m domain q.Ring).2.1,q.Device,q.Driver,nwn,false,nS (q.yb+q.qU.Count)⟩)
theorem npL (l:Rows) (m:na) (d:Int) (q:nk) (key:Bytes):(qQ l m d q key).1.nK.length=m.nK.length:=by
 unfold qQ
 cases (bif !(zg q) then true else bif !q.uJ then true else (len key) != 16)
 ·cases (bif (qN l m d q.Ring).2.2 then (sw l m d q (qN l m d q.Ring).1 key).2.2 else false)
  ·rfl
  ·exact nsz _ _ _ _ _ _
 ·rfl
theorem nur {l:Rows} {m:na} {d:Int} {q:nk} {key:Bytes} (h:ri q.Device=true):ri (qQ l m d q key).2.Device=true:=by
 unfold qQ
 cases (bif !(zg q) then true else bif !q.uJ then true else (len key) != 16)
 ·cases (bif (qN l m d q.Ring).2.2 then (sw l m d q (qN l m d q.Ring).1 key).2.2 else false)
  ·exact h
  ·exact nvb h
 ·exact h
def fhC (nc:Rows) (m:na) (domain:Int) (q:nk) (key:Bytes):Bool:=bif bif !(zg q) then true else bif !q.uJ then true else (len key) != 16 then true else bif (qN nc m domain q.Ring).2.2 then (qZ nc m domain q key (qN nc m domain q.Ring).1).2.2 else true
def ntO (nc:Rows) (m:na) (domain:Int) (q:nk) (key:Bytes):Bool:=ncH nc m domain q key && fhC nc m domain q key
def ntP (nc:Rows) (m:na) (domain:Int) (q:nk) (key:Bytes):Bool:=ncH nc m domain q key && !(fhC nc m domain q key)
theorem ngO (k_:na→nk→α) (nc:Rows) (m:na) (domain:Int) (q:nk) (key:Bytes) (aJ:ntO nc m domain q key=true):T3 kd k_ nc m domain q key=k_ (qQ nc m domain q key).1 (qQ nc m domain q key).2:=by
 obtain⟨aJ,AU⟩:ncH nc m domain q key=true∧fhC nc m domain q key=true:=by simpa only[ntO,Bool.and_eq_true] using aJ
 have hm:s_ m=true:=aJ
 have hP:∀e:Bytes,Xd nc m domain q key e=true:=fun e=>aJ
 have nw4:∀e:Bytes,Xd nc m domain q e key=true:=fun e=>aJ
 unfold T3 qQ
 dsimp only
 refine qP (K:=fun r:na×nk=>k_ r.1 r.2) (fun _=>qL (xQ hm) rfl) (fun hg=> ?_)
 have hS:(oP q.qU.om).2=true:=by
  rw[nmL]
  have h1:zg q=true:=by
   revert hg
   cases zg q<;>simp
  have h2:q.uJ=true:=by
   revert hg
   cases zg q<;>cases q.uJ<;>simp
  exact (nj1 h1).2.2.2 h2
 have A0:∀e,qZ nc m domain q key e=sw nc m domain q e key:=fun e=>by unfold qZ;rw[hS];rfl
 have nwc:(qN nc m domain q.Ring).2.2=false→(qN nc m domain q.Ring).2.1=q.Ring:=by
  unfold qN
  cases (bif !(uc q.Ring) then true else (yS q.Ring)==0)
  ·cases (ya nc m domain (ud q.Ring q.Ring.Head) 16).2
   ·intro _;rfl
   ·intro h;cases h
  ·intro _;rfl
 unfold fhC at AU
 rw[hg,cond_false] at AU
 cases hr:(qN nc m domain q.Ring).2.2
 ·rw[nwc hr]
  simp only[cond_false]
  exact qL (xQ hm) rfl
 ·rw[hr,cond_true] at AU
  have h3:nmK nc m domain q key (qN nc m domain q.Ring).1=true:=by
   simp only[nmK,Bool.and_eq_true]
   exact⟨aJ,AU⟩
  rw[A0] at AU
  simp only[cond_true,h3,A0,AU,ng]
  rfl
def T0 (k_:na→nk→α) (nc:Rows) (m:na) (domain:Int) (q:nk) (key:Bytes):α:=
 let z0:Bytes×oc×Bool:=qN nc m domain q.Ring
 let z1:na×nf×Bool:=qZ nc m domain q key z0.1
 let z2:po:=(⟨(⟨0,0,0,0,0,0,0,0,(⟨0,0,0,0,0,0,0,[]⟩:nF)⟩:nQ),0,0⟩:po)
 let z3:Int:=nS (q.yb+q.qU.Count)
 bif bif !(zg q) then true else bif !q.uJ then true else (len key) != 16 then
  bif Ec true (s_ m) then
   k_ (oB m) q
  else kd
 else bif z0.2.2 then
  bif Ec true (Xd nc m domain q key z0.1) then
   bif z1.2.2 then
    bif false then
     k_ z1.1 (⟨z0.2.1,z1.2.1,q.Driver,z2,false,q.yb⟩:nk)
    else kd
   else bif Ec true (s_ m) then
     k_ (oB m) (⟨z0.2.1,q.Device,q.Driver,z2,false,z3⟩:nk)
    else kd
  else kd
 else bif Ec true (s_ m) then
   k_ (oB m) (⟨q.Ring,q.Device,q.Driver,z2,false,z3⟩:nk)
  else kd
theorem ngL (k_:na→nk→α) (nc:Rows) (m:na) (domain:Int) (q:nk) (key:Bytes) (aJ:ntP nc m domain q key=true):T0 kd k_ nc m domain q key=k_ (qQ nc m domain q key).1 (qQ nc m domain q key).2:=by
 obtain⟨aJ,AU⟩:ncH nc m domain q key=true∧(!(fhC nc m domain q key))=true:=by simpa only[ntP,Bool.and_eq_true] using aJ
 have hm:s_ m=true:=aJ
 have hP:∀e:Bytes,Xd nc m domain q key e=true:=fun e=>aJ
 have nw4:∀e:Bytes,Xd nc m domain q e key=true:=fun e=>aJ
 unfold T0 qQ
 dsimp only
 refine qP (K:=fun r:na×nk=>k_ r.1 r.2) (fun _=>qL (xQ hm) rfl) (fun hg=> ?_)
 have hS:(oP q.qU.om).2=true:=by
  rw[nmL]
  have h1:zg q=true:=by
   revert hg
   cases zg q<;>simp
  have h2:q.uJ=true:=by
   revert hg
   cases zg q<;>cases q.uJ<;>simp
  exact (nj1 h1).2.2.2 h2
 have A0:∀e,qZ nc m domain q key e=sw nc m domain q e key:=fun e=>by unfold qZ;rw[hS];rfl
 have nwc:(qN nc m domain q.Ring).2.2=false→(qN nc m domain q.Ring).2.1=q.Ring:=by
  unfold qN
  cases (bif !(uc q.Ring) then true else (yS q.Ring)==0)
  ·cases (ya nc m domain (ud q.Ring q.Ring.Head) 16).2
   ·intro _;rfl
   ·intro h;cases h
  ·intro _;rfl
 have AU:fhC nc m domain q key=false:=by simpa using AU
 unfold fhC at AU
 rw[hg,cond_false] at AU
 cases hr:(qN nc m domain q.Ring).2.2
 ·rw[hr] at AU
  cases AU
 ·rw[hr,cond_true,A0] at AU
  simp only[cond_true,hP,A0,AU,ng,cond_false]
  exact qL hm rfl
def ZP (k_:na→nk→α) (nc:Rows) (m:na) (domain:Int) (q:nk) (key:Bytes):α:=
 let z0:Bytes×oc×Bool:=qN nc m domain q.Ring
 let z1:na×nf×Bool:=sw nc m domain q z0.1 key
 let z2:po:=(⟨(⟨0,0,0,0,0,0,0,0,(⟨0,0,0,0,0,0,0,[]⟩:nF)⟩:nQ),0,0⟩:po)
 bif bif !(zg q) then true else bif !q.uJ then true else (len key) != 16 then
  bif Ec true (s_ m) then
   k_ (oB m) q
  else kd
 else bif Ec true (Xd nc m domain q z0.1 key) then
   bif bif z0.2.2 then z1.2.2 else false then k_ z1.1 (⟨z0.2.1,z1.2.1,q.Driver,z2,false,q.yb⟩:nk)
   else bif Ec true (s_ m) then
     k_ (oB m) (⟨z0.2.1,q.Device,q.Driver,z2,false,nS (q.yb+q.qU.Count)⟩:nk)
    else kd
  else kd
theorem nmn (k_:na→nk→α) (nc:Rows) (m:na) (domain:Int) (q:nk) (key:Bytes) (aJ:ncH nc m domain q key=true):ZP kd k_ nc m domain q key=k_ (qQ nc m domain q key).1 (qQ nc m domain q key).2:=by
 have hm:s_ m=true:=aJ
 have hP:∀e:Bytes,Xd nc m domain q key e=true:=fun e=>aJ
 have nw4:∀e:Bytes,Xd nc m domain q e key=true:=fun e=>aJ
 unfold ZP qQ
 dsimp only
 refine qP (K:=fun r:na×nk=>k_ r.1 r.2) (fun _=>qL (xQ hm) rfl) (fun hg=> ?_)
 have hS:(oP q.qU.om).2=true:=by
  rw[nmL]
  have h1:zg q=true:=by
   revert hg
   cases zg q<;>simp
  have h2:q.uJ=true:=by
   revert hg
   cases zg q<;>cases q.uJ<;>simp
  exact (nj1 h1).2.2.2 h2
 have A0:∀e,qZ nc m domain q key e=sw nc m domain q e key:=fun e=>by unfold qZ;rw[hS];rfl
 have nwc:(qN nc m domain q.Ring).2.2=false→(qN nc m domain q.Ring).2.1=q.Ring:=by
  unfold qN
  cases (bif !(uc q.Ring) then true else (yS q.Ring)==0)
  ·cases (ya nc m domain (ud q.Ring q.Ring.Head) 16).2
   ·intro _;rfl
   ·intro h;cases h
  ·intro _;rfl
 simp only[nw4,ng,cond_true]
 exact qP (K:=fun r:na×nk=>k_ r.1 r.2) (fun _=>rfl) (fun _=>qL hm rfl)
def yj (k_:nt→α) (k ru qx qy qz qA qB qC qD qE:Int) (qF:Bool) (pR:Bytes) (pS:Bool) (pT pU pV pW pX:Int) (qw pD pE oT oU oV oW pY pZ p6 p7 p8 p9 p_ qb:Rows) (oL:Int→Rows→α) (n:Int) (pq:Rows):α:=
 bif decide (0<n) then
  bif Ec (Ec (Ec (Ec true (idx k pq)) (inl (Int.toNat k) pq)) (idx k pq)) (inl (Int.toNat k) pq) then
   oL (nS (n - 1)) (List.set pq (Int.toNat k) (bQ (nth pq (Int.toNat k)) 0 (nA.enc (yO (nA.nd (nth pq (Int.toNat k)) 0)))))
  else kd
 else k_ (⟨(⟨qw⟩:na),pD,(⟨(⟨ru,qx,qy,qz⟩:oc),(⟨qA,qB,qC,pE⟩:nE),oT,qD⟩:nn),oU,oV,pq,oW,(⟨qE,qF,pY⟩:nB),(⟨pZ,(⟨p6⟩:ni),(⟨pR,p7⟩:nD)⟩:nm),p8,pS,p9,p_,qb,(⟨pT,pU,pV,pW,pX⟩:nV)⟩:nt)
def yi (k_:nt→α) (N:Nat) (k ru qx qy qz qA qB qC qD qE:Int) (qF:Bool) (pR:Bytes) (pS:Bool) (pT pU pV pW pX:Int) (qw pD pE oT oU oV oW pY pZ p6 p7 p8 p9 p_ qb:Rows) (m_:Nat):Int→Rows→α:=
 Nat.rec (motive:=fun _=>Int→Rows→α) (fun _ _=>kd) (fun _ oL=>yj kd k_ k ru qx qy qz qA qB qC qD qE qF pR pS pT pU pV pW pX qw pD pE oT oU oV oW pY pZ p6 p7 p8 p9 p_ qb oL) m_
theorem S0 (k_:nt→α) (N:Nat) (k ru qx qy qz qA qB qC qD qE:Int) (qF:Bool) (pR:Bytes) (pS:Bool) (pT pU pV pW pX:Int) (qw pD pE oT oU oV oW pY pZ p6 p7 p8 p9 p_ qb:Rows) (m_:Nat):yi kd k_ N k ru qx qy qz qA qB qC qD qE qF pR pS pT pU pV pW pX qw pD pE oT oU oV oW pY pZ p6 p7 p8 p9 p_ qb (m_+1)=yj kd k_ k ru qx qy qz qA qB qC qD qE qF pR pS pT pU pV pW pX qw pD pE oT oU oV oW pY pZ p6 p7 p8 p9 p_ qb (yi kd k_ N k ru qx qy qz qA qB qC qD qE qF pR pS pT pU pV pW pX qw pD pE oT oU oV oW pY pZ p6 p7 p8 p9 p_ qb m_):=rfl
def Qx (k_:nt→α) (l0:Int→Int→Int→Int→Int→Int→Int→Int→Int→Bool→Bytes→Bool→Int→Int→Int→Int→Int→Rows→Rows→Rows→Rows→Rows→Rows→Rows→Rows→Rows→Rows→Rows→Rows→Rows→Rows→Rows→Int→Rows→α) (h:nt) (k before:Int):α:=
 let z0:Int:=nS ((rI (nth h.Rx (Int.toNat k)) 6) - before)
 let z1:Int:=nS (2*(rI (nth h.Rx (Int.toNat k)) 5))
 bif Ec (Ec true (idx k h.Rx)) (inl (Int.toNat k) h.Rx) then
  bif Ec true (zR z0 z1) then
   l0 h.Tx.Ring.oM h.Tx.Ring.nI h.Tx.Ring.Head h.Tx.Ring.sQ h.Tx.nP.oM h.Tx.nP.nI h.Tx.nP.Count h.Tx.Next h.Filter.Qj h.Filter.nU h.nh.nL.Key h.pj h.Counters.Frames h.Counters.SN h.Counters.oY h.Counters.pP h.Counters.rW h.nZ.nK h.Maps h.Tx.nP.pN h.Tx.ny h.Rx h.n_ h.ox h.Filter.pd h.nh.ot h.nh.Table.nC h.nh.nL.Table h.oF h.sU h.nY h.oq (XQ z0 z1) h.nM
  else kd
 else kd
def Yn (k_:nt→α) (N:Nat) (h:nt) (k before:Int):α:=Qx kd k_ (fun ru qx qy qz qA qB qC qD qE qF pR pS pT pU pV pW pX qw pD pE oT oU oV oW pY pZ p6 p7 p8 p9 p_ qb=>yi kd k_ N k ru qx qy qz qA qB qC qD qE qF pR pS pT pU pV pW pX qw pD pE oT oU oV oW pY pZ p6 p7 p8 p9 p_ qb N) h k before
def nmZ (r:List DC):List DC:=nA.enc (yO (nA.nd r 0))
def evQ (h:nt) (k:Int):nf:=(nk.nd (nth h.Rx k.toNat) 0).Device
def evN (h:nt) (k before:Int):Nat:=(((evQ h k).Count - before) % (2*(evQ h k).nI)).toNat
def Gv (h:nt) (k before:Int):Bool:=decide (0≤k) && (decide (k<len h.Rx) && (decide (k<len h.nM) && (ri (evQ h k) && nj before 0 31)))
def OP (h:nt) (k before:Int):nt:= {h with nM:=itN (fun _ v=>List.set v k.toNat (nmZ (nth v k.toNat))) (evN h k before) 0 h.nM}
theorem nkR (k_:nt→α) (h:nt) (k before:Int) (h_h:ka nt.ct h.enc) (aJ:Gv h k before=true):∃N,Yn kd k_ N h k before=k_ (OP h k before):=by
 have hw:=(oS (nt.nig h_h)).2
 simp only[Gv,Bool.and_eq_true,decide_eq_true_eq] at aJ
 obtain⟨h0,h1,h2,h3,h4⟩:=aJ
 obtain⟨c,rfl⟩:∃c:Nat,k=(c:Int):=⟨k.toNat,by omega⟩
 have hk:c<h.Rx.length:=by simp only[len] at h1;omega
 have hv:c<h.nM.length:=by simp only[len] at h2;omega
 obtain⟨q1,q2,q3,q4,q5,q6,q7⟩:=w_ h3
 have hb:=pf.1 h4
 have hd5:rI (nth h.Rx c) 5=(evQ h (c:Int)).nI:=rfl
 have hd6:rI (nth h.Rx c) 6=(evQ h (c:Int)).Count:=rfl
 have n0:=Int.emod_nonneg ((evQ h (c:Int)).Count - before) (show 2*(evQ h (c:Int)).nI≠0 by omega)
 have n1:=Int.emod_lt_of_pos ((evQ h (c:Int)).Count - before) (show 0<2*(evQ h (c:Int)).nI by omega)
 have hE:((evQ h (c:Int)).Count - before) % (2*(evQ h (c:Int)).nI)=((evN h (c:Int) before:Nat):Int):=by unfold evN;omega
 have hN:evN h (c:Int) before≤32:=by unfold evN;omega
 have w1:nS ((evQ h (c:Int)).Count - before)=(evQ h (c:Int)).Count - before:=nJ (by omega) (by omega)
 have w2:nS (2*(evQ h (c:Int)).nI)=2*(evQ h (c:Int)).nI:=nJ (by omega) (by omega)
 unfold Yn Qx OP
 refine⟨40, ?_⟩
 simp only[hd5,hd6,Int.toNat_natCast,n9 hk,sF hk,ng,cond_true]
 rw[w1,w2]
 obtain⟨m1,m2⟩:=Vl (x:=(evQ h (c:Int)).Count - before) (n:=2*(evQ h (c:Int)).nI) (by omega) (by omega) (by omega) (by omega)
 simp only[m1,m2,hE,ng,cond_true]
 have key:∀(m:Nat) (i:Nat) (v:Rows) (N:Nat),m<N→i+m=evN h (c:Int) before→v.length=h.nM.length→(∃x:nA,nth v c=x.enc)→
   yi kd k_ 40 (c:Int) h.Tx.Ring.oM h.Tx.Ring.nI h.Tx.Ring.Head h.Tx.Ring.sQ h.Tx.nP.oM h.Tx.nP.nI h.Tx.nP.Count h.Tx.Next h.Filter.Qj h.Filter.nU h.nh.nL.Key h.pj h.Counters.Frames h.Counters.SN h.Counters.oY h.Counters.pP h.Counters.rW h.nZ.nK h.Maps h.Tx.nP.pN h.Tx.ny h.Rx h.n_ h.ox h.Filter.pd h.nh.ot h.nh.Table.nC h.nh.nL.Table h.oF h.sU h.nY h.oq N ((m:Nat):Int) v=k_ {h with nM:=itN (fun _ v=>List.set v c (nmZ (nth v c))) m i v} :=by
  intro m
  induction m with
  | zero=>
   intro i v N g1 g2 g3 g4
   obtain⟨N,rfl⟩:∃q,N=q+1:=⟨N - 1,by omega⟩
   rw[S0]
   have hf:decide ((0:Int)<((0:Nat):Int))=false:=decide_eq_false (by omega)
   simp only[yj,hf,cond_false,itN]
  | succ m ih=>
   intro i v N g1 g2 g3 g4
   obtain⟨N,rfl⟩:∃q,N=q+1:=⟨N - 1,by omega⟩
   rw[S0]
   have hcv:c<v.length:=by omega
   have ht:decide ((0:Int)<((m+1:Nat):Int))=true:=decide_eq_true (by omega)
   have e:(nA.nd (nth v c) 0).enc=nth v c:=by obtain⟨x,hx⟩:=g4;rw[hx];rfl
   have er:bQ (nth v c) 0 (nA.enc (yO (nA.nd (nth v c) 0)))=nmZ (nth v c):=sk (by rw[←e];rfl)
   have this:=ih (i+1) (List.set v c (nmZ (nth v c))) N (by omega) (by omega) (by rw[List.length_set];exact g3) ⟨yO (nA.nd (nth v c) 0),ZM hcv _⟩
   have w3:nS (((m+1:Nat):Int) - 1)=((m:Nat):Int):=by rw[nJ (by omega) (by omega)];omega
   simp only[yj,ht,w3,er,Int.toNat_natCast,n9 hcv,sF hcv,ng,cond_true]
   exact this
 have:=key (evN h (c:Int) before) 0 h.nM 40 (by omega) (by omega) rfl ⟨nA.nd (nth h.nM c) 0,(nA.eta (hw _ (tn hv))).symm⟩
 exact this
def yK (k_:nt→α) (k n ru qx qy qz qA qB qC qD qE:Int) (qF:Bool) (pR:Bytes) (pS:Bool) (pT pU pV pW pX:Int) (qw pD pE oT oU oV oW pY pZ p6 p7 p8 p9 p_ qb:Rows) (oL:Int→Rows→α) (i:Int) (pq:Rows):α:=
 bif decide (i<n) then
  bif Ec (Ec (Ec (Ec true (idx k pq)) (inl (Int.toNat k) pq)) (idx k pq)) (inl (Int.toNat k) pq) then
   oL (nS (i+1)) (List.set pq (Int.toNat k) (bQ (nth pq (Int.toNat k)) 0 (nA.enc (yO (nA.nd (nth pq (Int.toNat k)) 0)))))
  else kd
 else k_ (⟨(⟨qw⟩:na),pD,(⟨(⟨ru,qx,qy,qz⟩:oc),(⟨qA,qB,qC,pE⟩:nE),oT,qD⟩:nn),oU,oV,pq,oW,(⟨qE,qF,pY⟩:nB),(⟨pZ,(⟨p6⟩:ni),(⟨pR,p7⟩:nD)⟩:nm),p8,pS,p9,p_,qb,(⟨pT,pU,pV,pW,pX⟩:nV)⟩:nt)
def yJ (k_:nt→α) (N:Nat) (k n ru qx qy qz qA qB qC qD qE:Int) (qF:Bool) (pR:Bytes) (pS:Bool) (pT pU pV pW pX:Int) (qw pD pE oT oU oV oW pY pZ p6 p7 p8 p9 p_ qb:Rows) (m_:Nat):Int→Rows→α:=
 Nat.rec (motive:=fun _=>Int→Rows→α) (fun _ _=>kd) (fun _ oL=>yK kd k_ k n ru qx qy qz qA qB qC qD qE qF pR pS pT pU pV pW pX qw pD pE oT oU oV oW pY pZ p6 p7 p8 p9 p_ qb oL) m_
theorem Tt (k_:nt→α) (N:Nat) (k n ru qx qy qz qA qB qC qD qE:Int) (qF:Bool) (pR:Bytes) (pS:Bool) (pT pU pV pW pX:Int) (qw pD pE oT oU oV oW pY pZ p6 p7 p8 p9 p_ qb:Rows) (m_:Nat):yJ kd k_ N k n ru qx qy qz qA qB qC qD qE qF pR pS pT pU pV pW pX qw pD pE oT oU oV oW pY pZ p6 p7 p8 p9 p_ qb (m_+1)=yK kd k_ k n ru qx qy qz qA qB qC qD qE qF pR pS pT pU pV pW pX qw pD pE oT oU oV oW pY pZ p6 p7 p8 p9 p_ qb (yJ kd k_ N k n ru qx qy qz qA qB qC qD qE qF pR pS pT pU pV pW pX qw pD pE oT oU oV oW pY pZ p6 p7 p8 p9 p_ qb m_):=rfl
def Rj (k_:nt→α) (l0:Int→Int→Int→Int→Int→Int→Int→Int→Int→Int→Bool→Bytes→Bool→Int→Int→Int→Int→Int→Rows→Rows→Rows→Rows→Rows→Rows→Rows→Rows→Rows→Rows→Rows→Rows→Rows→Rows→Rows→Int→Rows→α) (h:nt) (k before:Int):α:=
 bif Ec (Ec (Ec (Ec true (idx k h.Rx)) (inl (Int.toNat k) h.Rx)) (idx k h.Rx)) (inl (Int.toNat k) h.Rx) then
  l0 (bits .and .i64 (nS ((rI (nth h.Rx (Int.toNat k)) 6) - before)) (nS ((nS (2*(rI (nth h.Rx (Int.toNat k)) 5))) - 1))) h.Tx.Ring.oM h.Tx.Ring.nI h.Tx.Ring.Head h.Tx.Ring.sQ h.Tx.nP.oM h.Tx.nP.nI h.Tx.nP.Count h.Tx.Next h.Filter.Qj h.Filter.nU h.nh.nL.Key h.pj h.Counters.Frames h.Counters.SN h.Counters.oY h.Counters.pP h.Counters.rW h.nZ.nK h.Maps h.Tx.nP.pN h.Tx.ny h.Rx h.n_ h.ox h.Filter.pd h.nh.ot h.nh.Table.nC h.nh.nL.Table h.oF h.sU h.nY h.oq 0 h.nM
 else kd
def Z6 (k_:nt→α) (N:Nat) (h:nt) (k before:Int):α:=Rj kd k_ (fun n ru qx qy qz qA qB qC qD qE qF pR pS pT pU pV pW pX qw pD pE oT oU oV oW pY pZ p6 p7 p8 p9 p_ qb=>yJ kd k_ N k n ru qx qy qz qA qB qC qD qE qF pR pS pT pU pV pW pX qw pD pE oT oU oV oW pY pZ p6 p7 p8 p9 p_ qb N) h k before
theorem nmH (k_:nt→α) (h:nt) (k before:Int) (h_h:ka nt.ct h.enc) (aJ:Gv h k before=true):∃N,Z6 kd k_ N h k before=k_ (OP h k before):=by
 have hw:=(oS (nt.nig h_h)).2
 simp only[Gv,Bool.and_eq_true,decide_eq_true_eq] at aJ
 obtain⟨h0,h1,h2,h3,h4⟩:=aJ
 obtain⟨c,rfl⟩:∃c:Nat,k=(c:Int):=⟨k.toNat,by omega⟩
 have hk:c<h.Rx.length:=by simp only[len] at h1;omega
 have hv:c<h.nM.length:=by simp only[len] at h2;omega
 obtain⟨q1,q2,q3,q4,q5,q6,q7⟩:=w_ h3
 have hb:=pf.1 h4
 have hd5:rI (nth h.Rx c) 5=(evQ h (c:Int)).nI:=rfl
 have hd6:rI (nth h.Rx c) 6=(evQ h (c:Int)).Count:=rfl
 have n0:=Int.emod_nonneg ((evQ h (c:Int)).Count - before) (show 2*(evQ h (c:Int)).nI≠0 by omega)
 have n1:=Int.emod_lt_of_pos ((evQ h (c:Int)).Count - before) (show 0<2*(evQ h (c:Int)).nI by omega)
 have hE:((evQ h (c:Int)).Count - before) % (2*(evQ h (c:Int)).nI)=((evN h (c:Int) before:Nat):Int):=by unfold evN;omega
 have hN:evN h (c:Int) before≤32:=by unfold evN;omega
 have w1:nS ((evQ h (c:Int)).Count - before)=(evQ h (c:Int)).Count - before:=nJ (by omega) (by omega)
 have w2:nS (2*(evQ h (c:Int)).nI)=2*(evQ h (c:Int)).nI:=nJ (by omega) (by omega)
 unfold Z6 Rj OP
 refine⟨40, ?_⟩
 simp only[hd5,hd6,Int.toNat_natCast,n9 hk,sF hk,ng,cond_true]
 rw[w1,w2]
 have nxp:bits .and .i64 ((evQ h (c:Int)).Count - before) (nS (2*(evQ h (c:Int)).nI - 1))=((evN h (c:Int) before:Nat):Int):=by
  rw[←hE]
  generalize (evQ h (c:Int)).nI=S at*
  generalize (evQ h (c:Int)).Count - before=D
  rcases wY q1 with h | h | h | h<;>rw[h]
  ·exact and_3 D
  ·exact nv3 D
  ·exact nv1 D
  ·exact nv2 D
 rw[nxp]
 have key:∀(m:Nat) (i:Nat) (v:Rows) (N:Nat),m<N→i+m=evN h (c:Int) before→v.length=h.nM.length→(∃x:nA,nth v c=x.enc)→
   yJ kd k_ 40 (c:Int) ((evN h (c:Int) before:Nat):Int) h.Tx.Ring.oM h.Tx.Ring.nI h.Tx.Ring.Head h.Tx.Ring.sQ h.Tx.nP.oM h.Tx.nP.nI h.Tx.nP.Count h.Tx.Next h.Filter.Qj h.Filter.nU h.nh.nL.Key h.pj h.Counters.Frames h.Counters.SN h.Counters.oY h.Counters.pP h.Counters.rW h.nZ.nK h.Maps h.Tx.nP.pN h.Tx.ny h.Rx h.n_ h.ox h.Filter.pd h.nh.ot h.nh.Table.nC h.nh.nL.Table h.oF h.sU h.nY h.oq N (i:Int) v=k_ {h with nM:=itN (fun _ v=>List.set v c (nmZ (nth v c))) m i v} :=by
  intro m
  induction m with
  | zero=>
   intro i v N g1 g2 g3 g4
   obtain⟨N,rfl⟩:∃q,N=q+1:=⟨N - 1,by omega⟩
   rw[Tt]
   have hf:decide ((i:Int)<((evN h (c:Int) before:Nat):Int))=false:=decide_eq_false (by omega)
   simp only[yK,hf,cond_false,itN]
  | succ m ih=>
   intro i v N g1 g2 g3 g4
   obtain⟨N,rfl⟩:∃q,N=q+1:=⟨N - 1,by omega⟩
   rw[Tt]
   have hcv:c<v.length:=by omega
   have ht:decide ((i:Int)<((evN h (c:Int) before:Nat):Int))=true:=decide_eq_true (by omega)
   have e:(nA.nd (nth v c) 0).enc=nth v c:=by obtain⟨x,hx⟩:=g4;rw[hx];rfl
   have er:bQ (nth v c) 0 (nA.enc (yO (nA.nd (nth v c) 0)))=nmZ (nth v c):=sk (by rw[←e];rfl)
   have this:=ih (i+1) (List.set v c (nmZ (nth v c))) N (by omega) (by omega) (by rw[List.length_set];exact g3) ⟨yO (nA.nd (nth v c) 0),ZM hcv _⟩
   have w3:nS ((i:Int)+1)=((i+1:Nat):Int):=by rw[nJ (by omega) (by omega)];omega
   simp only[yK,ht,w3,er,Int.toNat_natCast,n9 hcv,sF hcv,ng,cond_true]
   exact this
 have:=key (evN h (c:Int) before) 0 h.nM 40 (by omega) (by omega) rfl ⟨nA.nd (nth h.nM c) 0,(nA.eta (hw _ (tn hv))).symm⟩
 exact this
theorem nt8 {a b:Bool} (h:(bif a then true else b)=false):a=false∧b=false:=by cases a<;>simp_all
theorem ncE {h:nt} (hk:yQ h=true):1≤h.Rx.length∧h.Rx.length≤2∧h.n_.length=h.Rx.length∧h.nM.length=h.Rx.length∧h.ox.length=h.Rx.length∧
  ∀i,i<h.Rx.length→zg (nk.nd (nth h.Rx i) 0)=true∧tU (nE.nd (nth h.n_ i) 0)=true∧tW (nA.nd (nth h.nM i) 0)=true:=by
 unfold yQ at hk
 cases h8:npZ h
 case true=>rw[h8] at hk;cases hk
 rw[h8,cond_false] at hk
 cases hs:sG h.nh (len h.Rx)
 case false=>rw[hs] at hk;cases hk
 rw[hs,cond_true] at hk
 cases ha:yN (fun i=>bif !(zg (nk.nd (nth h.Rx i) 0)) then true else bif !(tU (nE.nd (nth h.n_ i) 0)) then true else !(tW (nA.nd (nth h.nM i) 0))) h.Rx.length 0
 case true=>rw[ha] at hk;cases hk
 unfold npZ at h8
 obtain⟨_,h8⟩:=nt8 h8
 obtain⟨_,h8⟩:=nt8 h8
 obtain⟨_,h8⟩:=nt8 h8
 obtain⟨_,h8⟩:=nt8 h8
 obtain⟨b,h8⟩:=nt8 h8
 obtain⟨e1,h8⟩:=nt8 h8
 obtain⟨e2,e3⟩:=nt8 h8
 have b:=pf.1 (nvx b)
 have e1:len h.n_=len h.Rx:=by simpa using e1
 have e2:len h.nM=len h.Rx:=by simpa using e2
 have e3:len h.ox=len h.Rx:=by simpa using e3
 simp only[len] at b e1 e2 e3
 refine⟨by omega,by omega,by omega,by omega,by omega,fun i hi=> ?_⟩
 have:=TP.1 ha i (by omega) (by omega)
 obtain⟨a1,this⟩:=nt8 this
 obtain⟨a2,a3⟩:=nt8 this
 exact⟨nvx a1,nvx a2,nvx a3⟩
def vP (k_:nt→α) (x:Int) (pe:Rows) (oL:Int→Int→Int→Int→Int→Int→Int→Int→Int→Int→Bool→Bytes→Bool→Int→Int→Int→Int→Int→Rows→Rows→Rows→Rows→Rows→Rows→Rows→Rows→Rows→Rows→Rows→Rows→Rows→Rows→Rows→Rows→α) (oA n7 pw px py pz pA pB pC sL:Int) (tG:Bool) (rz:Bytes) (rH:Bool) (sa sb sd se sf:Int) (oz oa oe nT nR oR qJ qK oH sg sj oN oI oJ oK sK:Rows):α:=
 let z0:nn:=(⟨(⟨n7,pw,px,py⟩:oc),(⟨pz,pA,pB,oe⟩:nE),nT,pC⟩:nn)
 let z1:nm:=(⟨sg,(⟨sj⟩:ni),(⟨rz,oN⟩:nD)⟩:nm)
 let z2:nV:=(⟨sa,sb,sd,se,sf⟩:nV)
 let z3:nt:=(⟨(qQ oa (⟨oz⟩:na) 0 (nk.nd (nth nR (Int.toNat oA)) 0) rz).1,oa,z0,List.set nR (Int.toNat oA) (bQ (nth nR (Int.toNat oA)) 0 (nk.enc ((qQ oa (⟨oz⟩:na) 0 (nk.nd (nth nR (Int.toNat oA)) 0) rz).2))),oR,qJ,qK,(⟨sL,tG,oH⟩:nB),z1,oI,rH,oJ,oK,sK,z2⟩:nt)
 let z4:nt:=OP z3 oA (rI (nth pe (Int.toNat oA)) 6)
 let z5:nn:=z4.Tx
 let z6:oc:=z5.Ring
 let z7:nE:=z5.nP
 let z8:nB:=z4.Filter
 let z9:nm:=z4.nh
 let z10:nD:=z9.nL
 let z11:nV:=z4.Counters
 bif decide (oA<x) then
  bif Ec (Ec (Ec (Ec (Ec true (idx oA nR)) (inl (Int.toNat oA) nR)) (ncH oa (⟨oz⟩:na) 0 (nk.nd (nth nR (Int.toNat oA)) 0) rz)) (idx oA nR)) (inl (Int.toNat oA) nR) then
   bif Ec (Ec true (idx oA pe)) (Gv z3 oA (rI (nth pe (Int.toNat oA)) 6)) then
    oL (nS (oA+1)) z6.oM z6.nI z6.Head z6.sQ z7.oM z7.nI z7.Count z5.Next z8.Qj z8.nU z10.Key z4.pj z11.Frames z11.SN z11.oY z11.pP z11.rW z4.nZ.nK z4.Maps z7.pN z5.ny z4.Rx z4.n_ z4.nM z4.ox z8.pd z9.ot z9.Table.nC z10.Table z4.oF z4.sU z4.nY z4.oq
   else kd
  else kd
 else k_ (⟨(⟨oz⟩:na),oa,z0,nR,oR,qJ,qK,(⟨sL,tG,oH⟩:nB),z1,oI,rH,oJ,oK,sK,z2⟩:nt)
def sq (k_:nt→α) (N:Nat) (x:Int) (pe:Rows) (m_:Nat):Int→Int→Int→Int→Int→Int→Int→Int→Int→Int→Bool→Bytes→Bool→Int→Int→Int→Int→Int→Rows→Rows→Rows→Rows→Rows→Rows→Rows→Rows→Rows→Rows→Rows→Rows→Rows→Rows→Rows→Rows→α:=
 Nat.rec (motive:=fun _=>Int→Int→Int→Int→Int→Int→Int→Int→Int→Int→Bool→Bytes→Bool→Int→Int→Int→Int→Int→Rows→Rows→Rows→Rows→Rows→Rows→Rows→Rows→Rows→Rows→Rows→Rows→Rows→Rows→Rows→Rows→α) (fun _ _ _ _ _ _ _ _ _ _ _ _ _ _ _ _ _ _ _ _ _ _ _ _ _ _ _ _ _ _ _ _ _ _=>kd) (fun _ oL=>vP kd k_ x pe oL) m_
theorem SW (k_:nt→α) (N:Nat) (x:Int) (pe:Rows) (m_:Nat):sq kd k_ N x pe (m_+1)=vP kd k_ x pe (sq kd k_ N x pe m_):=rfl
def zs (k_:nt→α) (l0:Int→Rows→Int→Int→Int→Int→Int→Int→Int→Int→Int→Int→Bool→Bytes→Bool→Int→Int→Int→Int→Int→Rows→Rows→Rows→Rows→Rows→Rows→Rows→Rows→Rows→Rows→Rows→Rows→Rows→Rows→Rows→Rows→α) (h:nt):α:=
 bif Ec true (vu h) then
  bif Ec true (TX h) then
   bif !(yQ h) then k_ (oB h)
   else l0 (len ((oB h).Rx)) h.Rx 0 ((((oB h).Tx).Ring).oM) ((((oB h).Tx).Ring).nI) ((((oB h).Tx).Ring).Head) ((((oB h).Tx).Ring).sQ) ((((oB h).Tx).nP).oM) ((((oB h).Tx).nP).nI) ((((oB h).Tx).nP).Count) (((oB h).Tx).Next) (((oB h).Filter).Qj) (((oB h).Filter).nU) ((((oB h).nh).nL).Key) ((oB h).pj) (((oB h).Counters).Frames) (((oB h).Counters).SN) (((oB h).Counters).oY) (((oB h).Counters).pP) (((oB h).Counters).rW) (((oB h).nZ).nK) ((oB h).Maps) ((((oB h).Tx).nP).pN) (((oB h).Tx).ny) ((oB h).Rx) ((oB h).n_) ((oB h).nM) ((oB h).ox) (((oB h).Filter).pd) (((oB h).nh).ot) ((((oB h).nh).Table).nC) ((((oB h).nh).nL).Table) ((oB h).oF) ((oB h).sU) ((oB h).nY) ((oB h).oq)
  else kd
 else kd
def zr (k_:nt→α) (N:Nat) (h:nt):α:=zs kd k_ (fun x pe=>sq kd k_ N x pe N) h
def hfP (h o:nt) (i:Nat):na×nk:=qQ h.Maps o.nZ 0 (nk.nd (nth h.Rx i) 0) h.nh.nL.Key
def hfM (h o:nt) (i:Nat):nt:= {o with nZ:=(hfP h o i).1,Rx:=List.set o.Rx i (nk.enc (hfP h o i).2)}
def Xn (h:nt) (i:Nat) (o:nt):nt:=OP (hfM h o i) (i:Int) (rI (nth h.Rx i) 6)
def xa (h:nt):Bool:=vu h && TX h
def pk (h:nt):nt:=bif yQ h then itN (Xn h) h.Rx.length 0 h else h
def hfI (h:nt) (i:Nat) (o:nt):Prop:=o= {h with nZ:=o.nZ,Rx:=o.Rx,nM:=o.nM} ∧o.nZ.nK.length=h.nZ.nK.length∧o.Rx.length=h.Rx.length∧o.nM.length=h.nM.length∧∀j,i≤j→nth o.Rx j=nth h.Rx j
theorem nvq (c:Nat):∀(m i:Nat) (v:Rows),(itN (fun _ v=>List.set v c (nmZ (nth v c))) m i v).length=v.length
 | 0,_,_=>rfl
 | m+1,i,v=>(nvq c m (i+1) _).trans (List.length_set ..)
theorem nvc {l:Rows} {i j:Nat} (h:i≠j) (x:List DC):nth (List.set l i x) j=nth l j:=by
 simp only[nth,List.getD_eq_getElem?_getD,List.getElem?_set_ne h]
theorem npY {h o:nt} {i:Nat} (ho:hfI h i o):hfI h (i+1) (Xn h i o):=by
 obtain⟨m1,m2,m3,m4,m5⟩:=ho
 refine⟨?_, ?_, ?_, ?_, ?_⟩
 ·have this:=congrArg (fun x:nt=>({x with nZ:=(Xn h i o).nZ,Rx:=(Xn h i o).Rx,nM:=(Xn h i o).nM} :nt)) m1
  exact this
 ·exact (npL _ _ _ _ _).trans m2
 ·exact (List.length_set ..).trans m3
 ·exact (nvq _ _ _ _).trans m4
 ·intro j hj
  exact (nvc (by omega) _).trans (m5 j (by omega))
theorem nwR {h o:nt} {i:Nat} (hk:yQ h=true) (hi:i<h.Rx.length) (ho:hfI h i o):Gv (hfM h o i) (i:Int) (rI (nth h.Rx i) 6)=true:=by
 obtain⟨_,n2,r1,r2,r3,r4⟩:=ncE hk
 obtain⟨m1,m2,m3,m4,m5⟩:=ho
 have hq:=(nj1 (r4 i hi).1).1
 obtain⟨q1,q2,q3,q4,q5,q6,q7⟩:=w_ hq
 have Ag:evQ (hfM h o i) (i:Int)=(hfP h o i).2.Device:=by
  show (nk.nd (nth (List.set o.Rx i (nk.enc (hfP h o i).2)) (Int.toNat (i:Int))) 0).Device=_
  rw[Int.toNat_natCast,ZM (by omega)]
  rfl
 simp only[Gv,Bool.and_eq_true,decide_eq_true_eq]
 refine⟨by omega, ?_, ?_, ?_, ?_⟩
 ·show (i:Int)<len (List.set o.Rx i _)
  simp only[len,List.length_set];omega
 ·show (i:Int)<len o.nM
  simp only[len];omega
 ·rw[Ag]
  exact nur hq
 ·exact pf.2 ⟨q4,by show (nk.nd (nth h.Rx i) 0).Device.Count≤31;omega⟩
theorem nus {h:nt} :∃i,hfI h i (pk h):=by
 unfold pk
 cases yQ h
 ·exact⟨0,rfl,rfl,rfl,rfl,fun _ _=>rfl⟩
 ·have:∀(m i:Nat) (o:nt),hfI h i o→hfI h (i+m) (itN (Xn h) m i o):=by
   intro m
   induction m with
   | zero=>intro i o ho;exact ho
   | succ m ih=>intro i o ho;have:=ih (i+1) _ (npY ho);rw[show i+(m+1)=i+1+m by omega];exact this
  exact⟨_,this h.Rx.length 0 h ⟨rfl,rfl,rfl,rfl,fun _ _=>rfl⟩⟩
theorem ntI {h:nt} (hs:vu h=true):vu (pk h)=true:=by
 obtain⟨i,m1,m2,m3,m4,_⟩:=nus (h:=h)
 rw[m1]
 simp only[vu,Bool.and_eq_true,sm,decide_eq_true_eq] at hs ⊢
 rw[m2,m3,m4]
 exact hs
theorem nkG (k_:nt→α) (h:nt) (h_h:ka nt.ct h.enc) (aJ:xa h=true):∃N,zr kd k_ N h=k_ (pk h):=by
 obtain⟨hl,hw⟩:=oS (nt.nwu h_h)
 have HB:(vu h && TX h)=true:=aJ
 simp only[Bool.and_eq_true] at HB
 obtain⟨s,b⟩:=HB
 have s':=s
 simp only[vu,Bool.and_eq_true] at s'
 have s0:=uG s'.1
 have b':TX (⟨(⟨h.nZ.nK⟩:na),h.Maps,(⟨(⟨h.Tx.Ring.oM,h.Tx.Ring.nI,h.Tx.Ring.Head,h.Tx.Ring.sQ⟩:oc),(⟨h.Tx.nP.oM,h.Tx.nP.nI,h.Tx.nP.Count,h.Tx.nP.pN⟩:nE),h.Tx.ny,h.Tx.Next⟩:nn),h.Rx,h.n_,h.nM,h.ox,(⟨h.Filter.Qj,h.Filter.nU,h.Filter.pd⟩:nB),(⟨h.nh.ot,(⟨h.nh.Table.nC⟩:ni),(⟨h.nh.nL.Key,h.nh.nL.Table⟩:nD)⟩:nm),h.oF,h.pj,h.sU,h.nY,h.oq,(⟨h.Counters.Frames,h.Counters.SN,h.Counters.oY,h.Counters.pP,h.Counters.rW⟩:nV)⟩:nt)=true:=b
 refine⟨h.Rx.length+1, ?_⟩
 unfold zr zs pk
 simp only[s,b,oB,ng,cond_true]
 cases hk:yQ h
 ·rfl
 ·have Cz:yQ (⟨(⟨h.nZ.nK⟩:na),h.Maps,(⟨(⟨h.Tx.Ring.oM,h.Tx.Ring.nI,h.Tx.Ring.Head,h.Tx.Ring.sQ⟩:oc),(⟨h.Tx.nP.oM,h.Tx.nP.nI,h.Tx.nP.Count,h.Tx.nP.pN⟩:nE),h.Tx.ny,h.Tx.Next⟩:nn),h.Rx,h.n_,h.nM,h.ox,(⟨h.Filter.Qj,h.Filter.nU,h.Filter.pd⟩:nB),(⟨h.nh.ot,(⟨h.nh.Table.nC⟩:ni),(⟨h.nh.nL.Key,h.nh.nL.Table⟩:nD)⟩:nm),h.oF,h.pj,h.sU,h.nY,h.oq,(⟨h.Counters.Frames,h.Counters.SN,h.Counters.oY,h.Counters.pP,h.Counters.rW⟩:nV)⟩:nt)=true:=hk
  obtain⟨_,n2,r1,r2,r3,r4⟩:=ncE hk
  have key:sq kd k_ (h.Rx.length+1) (len h.Rx) h.Rx (h.Rx.length+1) 0 h.Tx.Ring.oM h.Tx.Ring.nI h.Tx.Ring.Head h.Tx.Ring.sQ h.Tx.nP.oM h.Tx.nP.nI h.Tx.nP.Count h.Tx.Next h.Filter.Qj h.Filter.nU h.nh.nL.Key h.pj h.Counters.Frames h.Counters.SN h.Counters.oY h.Counters.pP h.Counters.rW h.nZ.nK h.Maps h.Tx.nP.pN h.Tx.ny h.Rx h.n_ h.nM h.ox h.Filter.pd h.nh.ot h.nh.Table.nC h.nh.nL.Table h.oF h.sU h.nY h.oq=k_ (itN (Xn h) h.Rx.length 0 h):=by
   refine xL h.Rx.length (fun n i (o:nt)=>sq kd k_ (h.Rx.length+1) (len h.Rx) h.Rx n i o.Tx.Ring.oM o.Tx.Ring.nI o.Tx.Ring.Head o.Tx.Ring.sQ o.Tx.nP.oM o.Tx.nP.nI o.Tx.nP.Count o.Tx.Next o.Filter.Qj o.Filter.nU o.nh.nL.Key o.pj o.Counters.Frames o.Counters.SN o.Counters.oY o.Counters.pP o.Counters.rW o.nZ.nK o.Maps o.Tx.nP.pN o.Tx.ny o.Rx o.n_ o.nM o.ox o.Filter.pd o.nh.ot o.nh.Table.nC o.nh.nL.Table o.oF o.sU o.nY o.oq) (Xn h) (fun o=>k_ o) (hfI h) ?_ ?_ ?_ (h.Rx.length+1) h ⟨rfl,rfl,rfl,rfl,fun _ _=>rfl⟩ (by omega)
   ·intro i o hi ho
    exact npY ho
   ·intro n i o hi ho
    have Ag:Gv (⟨(hfP h o i).1,o.Maps,(⟨(⟨o.Tx.Ring.oM,o.Tx.Ring.nI,o.Tx.Ring.Head,o.Tx.Ring.sQ⟩:oc),(⟨o.Tx.nP.oM,o.Tx.nP.nI,o.Tx.nP.Count,o.Tx.nP.pN⟩:nE),o.Tx.ny,o.Tx.Next⟩:nn),List.set o.Rx i (nk.enc (hfP h o i).2),o.n_,o.nM,o.ox,(⟨o.Filter.Qj,o.Filter.nU,o.Filter.pd⟩:nB),(⟨o.nh.ot,(⟨o.nh.Table.nC⟩:ni),(⟨o.nh.nL.Key,o.nh.nL.Table⟩:nD)⟩:nm),o.oF,o.pj,o.sU,o.nY,o.oq,(⟨o.Counters.Frames,o.Counters.SN,o.Counters.oY,o.Counters.pP,o.Counters.rW⟩:nV)⟩:nt) (i:Int) (rI (nth h.Rx i) 6)=true:=nwR hk hi ho
    obtain⟨m1,m2,m3,m4,m5⟩:=ho
    have f1:=congrArg nt.Maps m1
    have f2:=congrArg (fun x:nt=>x.nh.nL.Key) m1
    replace f1:o.Maps=h.Maps:=f1
    replace f2:o.nh.nL.Key=h.nh.nL.Key:=f2
    have f3:nth o.Rx i=nth h.Rx i:=m5 i (Nat.le_refl _)
    show sq kd k_ (h.Rx.length+1) (len h.Rx) h.Rx (n+1) (i:Int) o.Tx.Ring.oM o.Tx.Ring.nI o.Tx.Ring.Head o.Tx.Ring.sQ o.Tx.nP.oM o.Tx.nP.nI o.Tx.nP.Count o.Tx.Next o.Filter.Qj o.Filter.nU o.nh.nL.Key o.pj o.Counters.Frames o.Counters.SN o.Counters.oY o.Counters.pP o.Counters.rW o.nZ.nK o.Maps o.Tx.nP.pN o.Tx.ny o.Rx o.n_ o.nM o.ox o.Filter.pd o.nh.ot o.nh.Table.nC o.nh.nL.Table o.oF o.sU o.nY o.oq=_
    rw[SW]
    have e:=congrArg List.length (nk.eta (hw _ (tn hi)))
    have er:∀q:nk,bQ (nth h.Rx i) 0 (nk.enc q)=nk.enc q:=fun q=>sk (e.symm.trans rfl)
    have er2:∀q:nk,bQ (nth o.Rx i) 0 (nk.enc q)=nk.enc q:=fun q=>by rw[f3];exact er q
    have i1:idx (i:Int) o.Rx=true:=n9 (by omega)
    have i2:inl i o.Rx=true:=sF (by omega)
    have hm:s_ (⟨o.nZ.nK⟩:na)=true:=decide_eq_true (by show o.nZ.nK.length≤_;omega)
    have hfh:∀(l:Rows) (q:nk) (key:Bytes),ncH l (⟨o.nZ.nK⟩:na) 0 q key=true:=fun _ _ _=>hm
    have e1:qQ o.Maps (⟨o.nZ.nK⟩:na) 0 (nk.nd (nth h.Rx i) 0) o.nh.nL.Key=hfP h o i:=by rw[f1,f2];rfl
    simp only[vP,Int.toNat_natCast,f3,e1,er,pL hi,n9 hi,i1,i2,hfh,Ag,oE hi hl,ng,nv,cond_true]
    rfl
   ·intro n o ho
    show sq kd k_ (h.Rx.length+1) (len h.Rx) h.Rx (n+1) (h.Rx.length:Int) o.Tx.Ring.oM o.Tx.Ring.nI o.Tx.Ring.Head o.Tx.Ring.sQ o.Tx.nP.oM o.Tx.nP.nI o.Tx.nP.Count o.Tx.Next o.Filter.Qj o.Filter.nU o.nh.nL.Key o.pj o.Counters.Frames o.Counters.SN o.Counters.oY o.Counters.pP o.Counters.rW o.nZ.nK o.Maps o.Tx.nP.pN o.Tx.ny o.Rx o.n_ o.nM o.ox o.Filter.pd o.nh.ot o.nh.Table.nC o.nh.nL.Table o.oF o.sU o.nY o.oq=_
    rw[SW]
    simp only[vP,nX,b',ng,PV,cond_true,cond_false]
  exact key
def uu (k_:nt→α) (xS h_2:Rows) (xT xU xV xW xX xY xZ:Int) (rX rY:Rows) (rZ:Int) (pe pI oG qd:Rows) (qk:Int) (ql:Bool) (qe oZ o_:Rows) (oX:Bytes) (pb qf:Rows) (r_:Bool) (qg qh qi:Rows) (qn qo qp qq qs:Int) (oL:Int→Int→Int→Int→Int→Int→Int→Int→Int→Int→Bool→Bytes→Bool→Int→Int→Int→Int→Int→Rows→Rows→Rows→Rows→Rows→Rows→Rows→Rows→Rows→Rows→Rows→Rows→Rows→Rows→Rows→Rows→α) (k n7 pw px py pz pA pB pC sL:Int) (tG:Bool) (rz:Bytes) (rH:Bool) (sa sb sd se sf:Int) (oz oa oe nT nR oR qJ qK oH sg sj oN oI oJ oK sK:Rows):α:=
 let z0:nt:=(⟨(⟨xS⟩:na),h_2,(⟨(⟨xT,xU,xV,xW⟩:oc),(⟨xX,xY,xZ,rX⟩:nE),rY,rZ⟩:nn),pe,pI,oG,qd,(⟨qk,ql,qe⟩:nB),(⟨oZ,(⟨o_⟩:ni),(⟨oX,pb⟩:nD)⟩:nm),qf,r_,qg,qh,qi,(⟨qn,qo,qp,qq,qs⟩:nV)⟩:nt)
 let z1:nn:=(⟨(⟨n7,pw,px,py⟩:oc),(⟨pz,pA,pB,oe⟩:nE),nT,pC⟩:nn)
 let z2:nm:=(⟨sg,(⟨sj⟩:ni),(⟨rz,oN⟩:nD)⟩:nm)
 let z3:nV:=(⟨sa,sb,sd,se,sf⟩:nV)
 let z4:nt:=(⟨(qQ h_2 (⟨oz⟩:na) 0 (nk.nd (nth pe (Int.toNat k)) 0) oX).1,oa,z1,List.set nR (Int.toNat k) (bQ (nth nR (Int.toNat k)) 0 (nk.enc ((qQ h_2 (⟨oz⟩:na) 0 (nk.nd (nth pe (Int.toNat k)) 0) oX).2))),oR,qJ,qK,(⟨sL,tG,oH⟩:nB),z2,oI,rH,oJ,oK,sK,z3⟩:nt)
 let z5:nt:=OP z4 k (rI (nth pe (Int.toNat k)) 6)
 let z6:nn:=z5.Tx
 let z7:oc:=z6.Ring
 let z8:nE:=z6.nP
 let z9:nB:=z5.Filter
 let z10:nm:=z5.nh
 let z11:nD:=z10.nL
 let z12:nV:=z5.Counters
 bif LV (decide (k<len pe)) (Ec true (TX z0)) true then
  bif bif decide (k<len pe) then yQ z0 else false then
   bif Ec (Ec true (idx k pe)) (ncH h_2 (⟨oz⟩:na) 0 (nk.nd (nth pe (Int.toNat k)) 0) oX) then
    bif Ec (Ec true (idx k nR)) (inl (Int.toNat k) nR) then
     bif Ec (Ec true (idx k pe)) (Gv z4 k (rI (nth pe (Int.toNat k)) 6)) then
      oL (nS (k+1)) z7.oM z7.nI z7.Head z7.sQ z8.oM z8.nI z8.Count z6.Next z9.Qj z9.nU z11.Key z5.pj z12.Frames z12.SN z12.oY z12.pP z12.rW z5.nZ.nK z5.Maps z8.pN z6.ny z5.Rx z5.n_ z5.nM z5.ox z9.pd z10.ot z10.Table.nC z11.Table z5.oF z5.sU z5.nY z5.oq
     else kd
    else kd
   else kd
  else k_ (⟨(⟨oz⟩:na),oa,z1,nR,oR,qJ,qK,(⟨sL,tG,oH⟩:nB),z2,oI,rH,oJ,oK,sK,z3⟩:nt)
 else kd
def sB (k_:nt→α) (N:Nat) (xS h_2:Rows) (xT xU xV xW xX xY xZ:Int) (rX rY:Rows) (rZ:Int) (pe pI oG qd:Rows) (qk:Int) (ql:Bool) (qe oZ o_:Rows) (oX:Bytes) (pb qf:Rows) (r_:Bool) (qg qh qi:Rows) (qn qo qp qq qs:Int) (m_:Nat):Int→Int→Int→Int→Int→Int→Int→Int→Int→Int→Bool→Bytes→Bool→Int→Int→Int→Int→Int→Rows→Rows→Rows→Rows→Rows→Rows→Rows→Rows→Rows→Rows→Rows→Rows→Rows→Rows→Rows→Rows→α:=
 Nat.rec (motive:=fun _=>Int→Int→Int→Int→Int→Int→Int→Int→Int→Int→Bool→Bytes→Bool→Int→Int→Int→Int→Int→Rows→Rows→Rows→Rows→Rows→Rows→Rows→Rows→Rows→Rows→Rows→Rows→Rows→Rows→Rows→Rows→α) (fun _ _ _ _ _ _ _ _ _ _ _ _ _ _ _ _ _ _ _ _ _ _ _ _ _ _ _ _ _ _ _ _ _ _=>kd) (fun _ oL=>uu kd k_ xS h_2 xT xU xV xW xX xY xZ rX rY rZ pe pI oG qd qk ql qe oZ o_ oX pb qf r_ qg qh qi qn qo qp qq qs oL) m_
theorem Np (k_:nt→α) (N:Nat) (xS h_2:Rows) (xT xU xV xW xX xY xZ:Int) (rX rY:Rows) (rZ:Int) (pe pI oG qd:Rows) (qk:Int) (ql:Bool) (qe oZ o_:Rows) (oX:Bytes) (pb qf:Rows) (r_:Bool) (qg qh qi:Rows) (qn qo qp qq qs:Int) (m_:Nat):sB kd k_ N xS h_2 xT xU xV xW xX xY xZ rX rY rZ pe pI oG qd qk ql qe oZ o_ oX pb qf r_ qg qh qi qn qo qp qq qs (m_+1)=uu kd k_ xS h_2 xT xU xV xW xX xY xZ rX rY rZ pe pI oG qd qk ql qe oZ o_ oX pb qf r_ qg qh qi qn qo qp qq qs (sB kd k_ N xS h_2 xT xU xV xW xX xY xZ rX rY rZ pe pI oG qd qk ql qe oZ o_ oX pb qf r_ qg qh qi qn qo qp qq qs m_):=rfl
def Na (k_:nt→α) (l0:Rows→Rows→Int→Int→Int→Int→Int→Int→Int→Rows→Rows→Int→Rows→Rows→Rows→Rows→Int→Bool→Rows→Rows→Rows→Bytes→Rows→Rows→Bool→Rows→Rows→Rows→Int→Int→Int→Int→Int→Int→Int→Int→Int→Int→Int→Int→Int→Int→Int→Bool→Bytes→Bool→Int→Int→Int→Int→Int→Rows→Rows→Rows→Rows→Rows→Rows→Rows→Rows→Rows→Rows→Rows→Rows→Rows→Rows→Rows→Rows→α) (h:nt):α:=
 bif Ec true (vu h) then
  l0 h.nZ.nK h.Maps h.Tx.Ring.oM h.Tx.Ring.nI h.Tx.Ring.Head h.Tx.Ring.sQ h.Tx.nP.oM h.Tx.nP.nI h.Tx.nP.Count h.Tx.nP.pN h.Tx.ny h.Tx.Next h.Rx h.n_ h.nM h.ox h.Filter.Qj h.Filter.nU h.Filter.pd h.nh.ot h.nh.Table.nC h.nh.nL.Key h.nh.nL.Table h.oF h.pj h.sU h.nY h.oq h.Counters.Frames h.Counters.SN h.Counters.oY h.Counters.pP h.Counters.rW 0 ((((oB h).Tx).Ring).oM) ((((oB h).Tx).Ring).nI) ((((oB h).Tx).Ring).Head) ((((oB h).Tx).Ring).sQ) ((((oB h).Tx).nP).oM) ((((oB h).Tx).nP).nI) ((((oB h).Tx).nP).Count) (((oB h).Tx).Next) (((oB h).Filter).Qj) (((oB h).Filter).nU) ((((oB h).nh).nL).Key) ((oB h).pj) (((oB h).Counters).Frames) (((oB h).Counters).SN) (((oB h).Counters).oY) (((oB h).Counters).pP) (((oB h).Counters).rW) (((oB h).nZ).nK) ((oB h).Maps) ((((oB h).Tx).nP).pN) (((oB h).Tx).ny) ((oB h).Rx) ((oB h).n_) ((oB h).nM) ((oB h).ox) (((oB h).Filter).pd) (((oB h).nh).ot) ((((oB h).nh).Table).nC) ((((oB h).nh).nL).Table) ((oB h).oF) ((oB h).sU) ((oB h).nY) ((oB h).oq)
 else kd
def z_ (k_:nt→α) (N:Nat) (h:nt):α:=Na kd k_ (fun xS h_2 xT xU xV xW xX xY xZ rX rY rZ pe pI oG qd qk ql qe oZ o_ oX pb qf r_ qg qh qi qn qo qp qq qs=>sB kd k_ N xS h_2 xT xU xV xW xX xY xZ rX rY rZ pe pI oG qd qk ql qe oZ o_ oX pb qf r_ qg qh qi qn qo qp qq qs N) h
theorem nmt (k_:nt→α) (h:nt) (h_h:ka nt.ct h.enc) (aJ:xa h=true):∃N,z_ kd k_ N h=k_ (pk h):=by
 obtain⟨hl,hw⟩:=oS (nt.nwu h_h)
 have HB:(vu h && TX h)=true:=aJ
 simp only[Bool.and_eq_true] at HB
 obtain⟨s,b⟩:=HB
 have s':=s
 simp only[vu,Bool.and_eq_true] at s'
 have s0:=uG s'.1
 have b':TX (⟨(⟨h.nZ.nK⟩:na),h.Maps,(⟨(⟨h.Tx.Ring.oM,h.Tx.Ring.nI,h.Tx.Ring.Head,h.Tx.Ring.sQ⟩:oc),(⟨h.Tx.nP.oM,h.Tx.nP.nI,h.Tx.nP.Count,h.Tx.nP.pN⟩:nE),h.Tx.ny,h.Tx.Next⟩:nn),h.Rx,h.n_,h.nM,h.ox,(⟨h.Filter.Qj,h.Filter.nU,h.Filter.pd⟩:nB),(⟨h.nh.ot,(⟨h.nh.Table.nC⟩:ni),(⟨h.nh.nL.Key,h.nh.nL.Table⟩:nD)⟩:nm),h.oF,h.pj,h.sU,h.nY,h.oq,(⟨h.Counters.Frames,h.Counters.SN,h.Counters.oY,h.Counters.pP,h.Counters.rW⟩:nV)⟩:nt)=true:=b
 refine⟨h.Rx.length+1, ?_⟩
 unfold z_ Na pk
 simp only[s,b,oB,ng,cond_true]
 cases hk:yQ h
 ·have Cz:yQ (⟨(⟨h.nZ.nK⟩:na),h.Maps,(⟨(⟨h.Tx.Ring.oM,h.Tx.Ring.nI,h.Tx.Ring.Head,h.Tx.Ring.sQ⟩:oc),(⟨h.Tx.nP.oM,h.Tx.nP.nI,h.Tx.nP.Count,h.Tx.nP.pN⟩:nE),h.Tx.ny,h.Tx.Next⟩:nn),h.Rx,h.n_,h.nM,h.ox,(⟨h.Filter.Qj,h.Filter.nU,h.Filter.pd⟩:nB),(⟨h.nh.ot,(⟨h.nh.Table.nC⟩:ni),(⟨h.nh.nL.Key,h.nh.nL.Table⟩:nD)⟩:nm),h.oF,h.pj,h.sU,h.nY,h.oq,(⟨h.Counters.Frames,h.Counters.SN,h.Counters.oY,h.Counters.pP,h.Counters.rW⟩:nV)⟩:nt)=false:=hk
  rw[Np]
  simp only[uu,b',Cz,ng,PV,cond_true]
  cases decide ((0:Int)<len h.Rx)<;>rfl
 ·have Cz:yQ (⟨(⟨h.nZ.nK⟩:na),h.Maps,(⟨(⟨h.Tx.Ring.oM,h.Tx.Ring.nI,h.Tx.Ring.Head,h.Tx.Ring.sQ⟩:oc),(⟨h.Tx.nP.oM,h.Tx.nP.nI,h.Tx.nP.Count,h.Tx.nP.pN⟩:nE),h.Tx.ny,h.Tx.Next⟩:nn),h.Rx,h.n_,h.nM,h.ox,(⟨h.Filter.Qj,h.Filter.nU,h.Filter.pd⟩:nB),(⟨h.nh.ot,(⟨h.nh.Table.nC⟩:ni),(⟨h.nh.nL.Key,h.nh.nL.Table⟩:nD)⟩:nm),h.oF,h.pj,h.sU,h.nY,h.oq,(⟨h.Counters.Frames,h.Counters.SN,h.Counters.oY,h.Counters.pP,h.Counters.rW⟩:nV)⟩:nt)=true:=hk
  obtain⟨_,n2,r1,r2,r3,r4⟩:=ncE hk
  have key:sB kd k_ (h.Rx.length+1) h.nZ.nK h.Maps h.Tx.Ring.oM h.Tx.Ring.nI h.Tx.Ring.Head h.Tx.Ring.sQ h.Tx.nP.oM h.Tx.nP.nI h.Tx.nP.Count h.Tx.nP.pN h.Tx.ny h.Tx.Next h.Rx h.n_ h.nM h.ox h.Filter.Qj h.Filter.nU h.Filter.pd h.nh.ot h.nh.Table.nC h.nh.nL.Key h.nh.nL.Table h.oF h.pj h.sU h.nY h.oq h.Counters.Frames h.Counters.SN h.Counters.oY h.Counters.pP h.Counters.rW (h.Rx.length+1) 0 h.Tx.Ring.oM h.Tx.Ring.nI h.Tx.Ring.Head h.Tx.Ring.sQ h.Tx.nP.oM h.Tx.nP.nI h.Tx.nP.Count h.Tx.Next h.Filter.Qj h.Filter.nU h.nh.nL.Key h.pj h.Counters.Frames h.Counters.SN h.Counters.oY h.Counters.pP h.Counters.rW h.nZ.nK h.Maps h.Tx.nP.pN h.Tx.ny h.Rx h.n_ h.nM h.ox h.Filter.pd h.nh.ot h.nh.Table.nC h.nh.nL.Table h.oF h.sU h.nY h.oq=k_ (itN (Xn h) h.Rx.length 0 h):=by
   refine xL h.Rx.length (fun n i (o:nt)=>sB kd k_ (h.Rx.length+1) h.nZ.nK h.Maps h.Tx.Ring.oM h.Tx.Ring.nI h.Tx.Ring.Head h.Tx.Ring.sQ h.Tx.nP.oM h.Tx.nP.nI h.Tx.nP.Count h.Tx.nP.pN h.Tx.ny h.Tx.Next h.Rx h.n_ h.nM h.ox h.Filter.Qj h.Filter.nU h.Filter.pd h.nh.ot h.nh.Table.nC h.nh.nL.Key h.nh.nL.Table h.oF h.pj h.sU h.nY h.oq h.Counters.Frames h.Counters.SN h.Counters.oY h.Counters.pP h.Counters.rW n i o.Tx.Ring.oM o.Tx.Ring.nI o.Tx.Ring.Head o.Tx.Ring.sQ o.Tx.nP.oM o.Tx.nP.nI o.Tx.nP.Count o.Tx.Next o.Filter.Qj o.Filter.nU o.nh.nL.Key o.pj o.Counters.Frames o.Counters.SN o.Counters.oY o.Counters.pP o.Counters.rW o.nZ.nK o.Maps o.Tx.nP.pN o.Tx.ny o.Rx o.n_ o.nM o.ox o.Filter.pd o.nh.ot o.nh.Table.nC o.nh.nL.Table o.oF o.sU o.nY o.oq) (Xn h) (fun o=>k_ o) (hfI h) ?_ ?_ ?_ (h.Rx.length+1) h ⟨rfl,rfl,rfl,rfl,fun _ _=>rfl⟩ (by omega)
   ·intro i o hi ho
    exact npY ho
   ·intro n i o hi ho
    have Ag:Gv (⟨(hfP h o i).1,o.Maps,(⟨(⟨o.Tx.Ring.oM,o.Tx.Ring.nI,o.Tx.Ring.Head,o.Tx.Ring.sQ⟩:oc),(⟨o.Tx.nP.oM,o.Tx.nP.nI,o.Tx.nP.Count,o.Tx.nP.pN⟩:nE),o.Tx.ny,o.Tx.Next⟩:nn),List.set o.Rx i (nk.enc (hfP h o i).2),o.n_,o.nM,o.ox,(⟨o.Filter.Qj,o.Filter.nU,o.Filter.pd⟩:nB),(⟨o.nh.ot,(⟨o.nh.Table.nC⟩:ni),(⟨o.nh.nL.Key,o.nh.nL.Table⟩:nD)⟩:nm),o.oF,o.pj,o.sU,o.nY,o.oq,(⟨o.Counters.Frames,o.Counters.SN,o.Counters.oY,o.Counters.pP,o.Counters.rW⟩:nV)⟩:nt) (i:Int) (rI (nth h.Rx i) 6)=true:=nwR hk hi ho
    obtain⟨m1,m2,m3,m4,m5⟩:=ho
    have f1:=congrArg nt.Maps m1
    have f2:=congrArg (fun x:nt=>x.nh.nL.Key) m1
    replace f1:o.Maps=h.Maps:=f1
    replace f2:o.nh.nL.Key=h.nh.nL.Key:=f2
    have f3:nth o.Rx i=nth h.Rx i:=m5 i (Nat.le_refl _)
    show sB kd k_ (h.Rx.length+1) h.nZ.nK h.Maps h.Tx.Ring.oM h.Tx.Ring.nI h.Tx.Ring.Head h.Tx.Ring.sQ h.Tx.nP.oM h.Tx.nP.nI h.Tx.nP.Count h.Tx.nP.pN h.Tx.ny h.Tx.Next h.Rx h.n_ h.nM h.ox h.Filter.Qj h.Filter.nU h.Filter.pd h.nh.ot h.nh.Table.nC h.nh.nL.Key h.nh.nL.Table h.oF h.pj h.sU h.nY h.oq h.Counters.Frames h.Counters.SN h.Counters.oY h.Counters.pP h.Counters.rW (n+1) (i:Int) o.Tx.Ring.oM o.Tx.Ring.nI o.Tx.Ring.Head o.Tx.Ring.sQ o.Tx.nP.oM o.Tx.nP.nI o.Tx.nP.Count o.Tx.Next o.Filter.Qj o.Filter.nU o.nh.nL.Key o.pj o.Counters.Frames o.Counters.SN o.Counters.oY o.Counters.pP o.Counters.rW o.nZ.nK o.Maps o.Tx.nP.pN o.Tx.ny o.Rx o.n_ o.nM o.ox o.Filter.pd o.nh.ot o.nh.Table.nC o.nh.nL.Table o.oF o.sU o.nY o.oq=_
    rw[Np]
    have e:=congrArg List.length (nk.eta (hw _ (tn hi)))
    have er:∀q:nk,bQ (nth h.Rx i) 0 (nk.enc q)=nk.enc q:=fun q=>sk (e.symm.trans rfl)
    have er2:∀q:nk,bQ (nth o.Rx i) 0 (nk.enc q)=nk.enc q:=fun q=>by rw[f3];exact er q
    have i1:idx (i:Int) o.Rx=true:=n9 (by omega)
    have i2:inl i o.Rx=true:=sF (by omega)
    have hm:s_ (⟨o.nZ.nK⟩:na)=true:=decide_eq_true (by show o.nZ.nK.length≤_;omega)
    have hfh:∀(l:Rows) (q:nk) (key:Bytes),ncH l (⟨o.nZ.nK⟩:na) 0 q key=true:=fun _ _ _=>hm
    have e1:qQ h.Maps (⟨o.nZ.nK⟩:na) 0 (nk.nd (nth h.Rx i) 0) h.nh.nL.Key=hfP h o i:=rfl
    simp only[uu,Int.toNat_natCast,e1,er2,pL hi,n9 hi,i1,i2,hfh,Ag,b',Cz,oE hi hl,ng,nv,PV,cond_true]
    rfl
   ·intro n o ho
    show sB kd k_ (h.Rx.length+1) h.nZ.nK h.Maps h.Tx.Ring.oM h.Tx.Ring.nI h.Tx.Ring.Head h.Tx.Ring.sQ h.Tx.nP.oM h.Tx.nP.nI h.Tx.nP.Count h.Tx.nP.pN h.Tx.ny h.Tx.Next h.Rx h.n_ h.nM h.ox h.Filter.Qj h.Filter.nU h.Filter.pd h.nh.ot h.nh.Table.nC h.nh.nL.Key h.nh.nL.Table h.oF h.pj h.sU h.nY h.oq h.Counters.Frames h.Counters.SN h.Counters.oY h.Counters.pP h.Counters.rW (n+1) (h.Rx.length:Int) o.Tx.Ring.oM o.Tx.Ring.nI o.Tx.Ring.Head o.Tx.Ring.sQ o.Tx.nP.oM o.Tx.nP.nI o.Tx.nP.Count o.Tx.Next o.Filter.Qj o.Filter.nU o.nh.nL.Key o.pj o.Counters.Frames o.Counters.SN o.Counters.oY o.Counters.pP o.Counters.rW o.nZ.nK o.Maps o.Tx.nP.pN o.Tx.ny o.Rx o.n_ o.nM o.ox o.Filter.pd o.nh.ot o.nh.Table.nC o.nh.nL.Table o.oF o.sU o.nY o.oq=_
    rw[Np]
    simp only[uu,nX,b',ng,PV,cond_true,cond_false]
  exact key
def OV (k_:Bool→α) (aH:nt):α:=
 let z0:Bool:=Ec (Ec true (tC aH)) (xa (oB aH))
 let z1:Bool:=Ec true (same (pk (oB aH)) (pk (oB aH)))
 let z2:Bool:= !(pK (pk (oB aH)) (pk (oB aH)))
 let z3:Bool:=decide ((oD (oB aH) 1).1<0)
 let z4:nt:=(⟨(⟨(oD (pk (oB aH)) 1).2.1⟩:na),(oD (pk (oB aH)) 1).2.2.1,(⟨((pk (oB aH)).Tx).Ring,(⟨(((pk (oB aH)).Tx).nP).oM,(((pk (oB aH)).Tx).nP).nI,(((pk (oB aH)).Tx).nP).Count,(oD (pk (oB aH)) 1).2.2.2.1⟩:nE),(oD (pk (oB aH)) 1).2.2.2.2.1,((pk (oB aH)).Tx).Next⟩:nn),(oD (pk (oB aH)) 1).2.2.2.2.2.1,(oD (pk (oB aH)) 1).2.2.2.2.2.2.1,(oD (pk (oB aH)) 1).2.2.2.2.2.2.2.1,(oD (pk (oB aH)) 1).2.2.2.2.2.2.2.2.1,(⟨((pk (oB aH)).Filter).Qj,((pk (oB aH)).Filter).nU,(oD (pk (oB aH)) 1).2.2.2.2.2.2.2.2.2.1⟩:nB),(⟨(oD (pk (oB aH)) 1).2.2.2.2.2.2.2.2.2.2.1,(⟨(oD (pk (oB aH)) 1).2.2.2.2.2.2.2.2.2.2.2.1⟩:ni),(⟨(((pk (oB aH)).nh).nL).Key,(oD (pk (oB aH)) 1).2.2.2.2.2.2.2.2.2.2.2.2.1⟩:nD)⟩:nm),(oD (pk (oB aH)) 1).2.2.2.2.2.2.2.2.2.2.2.2.2.1,(pk (oB aH)).pj,(oD (pk (oB aH)) 1).2.2.2.2.2.2.2.2.2.2.2.2.2.2.1,(oD (pk (oB aH)) 1).2.2.2.2.2.2.2.2.2.2.2.2.2.2.2.1,(oD (pk (oB aH)) 1).2.2.2.2.2.2.2.2.2.2.2.2.2.2.2.2,(pk (oB aH)).Counters⟩:nt)
 let z5:Bool:=Ec true (OR z4 1)
 let z6:Int:=X1 z4 1
 let z7:Bool:=decide (z6<0)
 let z8:Bool:=z6 != ((oD (pk (oB aH)) 1).1)
 bif decide (vZ aH 1048576<0) then k_ true
 else bif z0 then
   bif Ec true (tC aH) then
    bif Ec true (xa (oB aH)) then
     bif z1 then
      bif z2 then k_ false
      else bif Ec (Ec true (tC aH)) (same (oB aH) (oB aH)) then
        bif !(pK (oB aH) (oB aH)) then k_ false
        else bif Ec true (y6 (oB aH) 1) then
          bif LV z3 true z1 then
           bif bif z3 then true else z2 then k_ false
           else bif Ec true (y6 (pk (oB aH)) 1) then
             bif z5 then
              bif z7 then k_ false
              else bif z8 then k_ false
              else bif z0 then
                bif z1 then
                 bif z2 then k_ false
                 else bif z5 then
                   bif z7 then k_ false
                   else bif z8 then k_ false
                   else k_ true
                  else kd
                else kd
               else kd
             else kd
            else kd
          else kd
         else kd
       else kd
     else kd
    else kd
   else kd
  else kd
theorem Yx (k_:Bool→α) (aH:nt) (nwA:ka nt.ct aH.enc) (aJ:VR (nt.ct++([])) (aH.enc++([]))=true):OV kd k_ aH=k_ true:=by
 unfold OV
 by_cases c0:vZ aH 1048576<0
 ·simp only[c0,decide_true,decide_false,cond_true,cond_false]
 have k0:=nqQ nwA (by omega) (by omega) (Int.not_lt.1 c0)
 have hs:=nvW k0.2
 have hb:=nvM nwA (by omega) (by omega) (Int.not_lt.1 c0)
 have ht:xa aH=true:=by simp only[xa,hs,hb,Bool.and_self]
 have hs2:vu (pk aH)=true:=ntI hs
 obtain⟨K,P0,P1,P2,P3,P4,P5,P6,P7,P8,P9,P10,P11,P12,P13,P14,P15,mh0,mh1,mh2,_,_⟩:=nvu hs
 obtain⟨J,Q0,Q1,Q2,Q3,Q4,Q5,Q6,Q7,Q8,Q9,Q10,Q11,Q12,Q13,Q14,Q15,nh0,nh1,nh2,nh3,nh4⟩:=nvu hs2
 have mh3:¬K<0:=by omega
 have nh5:¬J<0:=by omega
 simp only[c0,decide_false,cond_false,cond_true,oB,k0.2,ht,mh0,mh1,mh3,nh0,nh1,nh3,nh4,nh5,ng,nv,qu,pK,beq_self_eq_true,bne_self_eq_false,Bool.not_true,PV]
end
end Go.Proofs.YtoaflbnkiobhdaaGreat.Pl
