/- Plain forms. Conditions: as each says. -/
import Derived.Test.YtnlkklmcfafgeaaGreatP0
import Derived.Test.YtnlkklmcfafgeaaGreatBit
import Derived.Test.YtnlkklmcfafgeaaGreatDp
set_option linter.unusedVariables false
set_option linter.unusedSimpArgs false
set_option maxRecDepth 100000
namespace Go.Proofs.YtnlkklmcfafgeaaGreat.Pl
open Vm
noncomputable section
variable {α:Type} (kf:α)
structure wT where
 Tos:Int
 Id:Int
 Ttl:Int
 nsH:Int
 Src:Int
 Dst:Int
 Body:Bytes
def wT.enc (x:wT):List DC:=[.int x.Tos,.int x.Id,.int x.Ttl,.int x.nsH,.int x.Src,.int x.Dst,.str x.Body]
def wT.nc (r:List DC) (o:Nat):wT:=⟨rI r (o+0),rI r (o+1),rI r (o+2),rI r (o+3),rI r (o+4),rI r (o+5),rS r (o+6)⟩
def wT.ct:List CT:=[.i,.i,.i,.i,.i,.i,.str]
theorem wT.eta {r:List DC} (h:kd wT.ct r):(wT.nc r 0).enc=r:=(show (wT.nc r 0).enc=tf wT.ct r 0 from by kernel_rfl).trans (rL h)
theorem wT.nw {r:List CT} {ds:List DC} (h:kd (wT.ct++r) ds):∃(x:wT) (bc:List DC),ds=x.enc++bc∧kd wT.ct x.enc∧kd r bc:=by
 obtain⟨d1,d2,rfl,h1,h2⟩:=qB h
 exact⟨wT.nc d1 0,d2,by rw[wT.eta h1],by rw[wT.eta h1];exact h1,h2⟩
theorem wT.nA4 {x:wT} (h:kd wT.ct x.enc):G5 .i (.int x.Tos):=n_ 0 h rfl rfl
theorem wT.nBc {x:wT} (h:kd wT.ct x.enc):G5 .i (.int x.Id):=n_ 1 h rfl rfl
theorem wT.nA5 {x:wT} (h:kd wT.ct x.enc):G5 .i (.int x.Ttl):=n_ 2 h rfl rfl
theorem wT.nA3 {x:wT} (h:kd wT.ct x.enc):G5 .i (.int x.Src):=n_ 4 h rfl rfl
theorem wT.nAZ {x:wT} (h:kd wT.ct x.enc):G5 .i (.int x.Dst):=n_ 5 h rfl rfl
theorem wT.nxw {x:wT} (h:kd wT.ct x.enc):G5 .str (.str x.Body):=n_ 6 h rfl rfl
structure rl where
 Dst:Int
 Src:Int
 rO:Int
 SJ:Int
 Body:Bytes
def rl.enc (x:rl):List DC:=[.int x.Dst,.int x.Src,.int x.rO,.int x.SJ,.str x.Body]
def rl.nc (r:List DC) (o:Nat):rl:=⟨rI r (o+0),rI r (o+1),rI r (o+2),rI r (o+3),rS r (o+4)⟩
def rl.ct:List CT:=[.i,.i,.i,.i,.str]
theorem rl.eta {r:List DC} (h:kd rl.ct r):(rl.nc r 0).enc=r:=(show (rl.nc r 0).enc=tf rl.ct r 0 from by kernel_rfl).trans (rL h)
theorem rl.nw {r:List CT} {ds:List DC} (h:kd (rl.ct++r) ds):∃(x:rl) (bc:List DC),ds=x.enc++bc∧kd rl.ct x.enc∧kd r bc:=by
 obtain⟨d1,d2,rfl,h1,h2⟩:=qB h
 exact⟨rl.nc d1 0,d2,by rw[rl.eta h1],by rw[rl.eta h1];exact h1,h2⟩
theorem rl.nAZ {x:rl} (h:kd rl.ct x.enc):G5 .i (.int x.Dst):=n_ 0 h rfl rfl
theorem rl.nA3 {x:rl} (h:kd rl.ct x.enc):G5 .i (.int x.Src):=n_ 1 h rfl rfl
theorem rl.ny5 {x:rl} (h:kd rl.ct x.enc):G5 .i (.int x.rO):=n_ 2 h rfl rfl
theorem rl.nxw {x:rl} (h:kd rl.ct x.enc):G5 .str (.str x.Body):=n_ 4 h rfl rfl
def So (Y:Bytes→α) (v:Int):α:=
 bif !(nf v 0 65535) then Y []
 else Y (toStr ([[.int (IntKind.wrap .u8 (wE .i64 v 8))],[.int (IntKind.wrap .u8 v)]]))
def nT (v:Int):Bytes:=So id v
theorem nhX (Y:Bytes→α) (v:Int):So Y v=Y (nT v):=by
 exact J9 rfl rfl
theorem qv (v:Int):(ph v).length≤4:=by
 unfold ph Sp
 cases !(nf v 0 4294967295)<;>simp [toStr]
theorem oa (v:Int):(nT v).length≤2:=by
 unfold nT So
 cases !(nf v 0 65535)<;>simp [toStr]
theorem U2 {a b:Bytes} (h:a.length+b.length≤9223372036854775807):oz a b=true:=Lu h
theorem qP (r:Rows):(toStr r).length=r.length:=by simp [toStr]
def ss (s:Bytes):Bool:=decide (s.length≤4294967296)
theorem nxm {q:nz} (h:sk q=true):q.Body.length≤320:=by
 unfold sk xm at h
 by_cases h3:320<len q.Body
 ·rw[Lu h3] at h
  revert h
  cases !(nf q.om 0 65535)<;>cases !(nf q.n9 0 65535)<;>simp
 ·simp only[len] at h3
  omega
def neA (Y:Int→α) (a b:Int):α:=
 bif bif !(nf a 0 65535) then true else !(nf b 0 65535) then Y (-1)
 else bif decide (65535<nL (a+b)) then Y (nL ((nL (a+b)) - 65535))
 else Y (nL (a+b))
def nkN (a b:Int):Int:=neA id a b
theorem nez (Y:Int→α) (a b:Int):neA Y a b=Y (nkN a b):=by
 exact J9 rfl (J9 rfl rfl)
def zX (Y:Int→α) (s:Bytes) (ov:Int→Int→α) (sum i:Int):α:=
 let z0:Bool:=decide (nL (i+1)<len s)
 let z1:Int:=Zb .i64 (nL (wV s i)) 8
 bif decide (i<len s) then
  bif Ed true (idx i s) then
   bif L0 z0 (Ed true (idx (nL (i+1)) s)) true then
    ov (nkN sum (bif z0 then bits .or .i64 z1 (nL (wV s (nL (i+1)))) else z1)) (nL (i+2))
   else kf
  else kf
 else Y sum
def zW (Y:Int→α) (N:Nat) (s:Bytes) (m_:Nat):Int→Int→α:=
 Nat.rec (motive:=fun _=>Int→Int→α) (fun _ _=>kf) (fun _ ov=>zX kf Y s ov) m_
theorem Vr (Y:Int→α) (N:Nat) (s:Bytes) (m_:Nat):zW kf Y N s (m_+1)=zX kf Y s (zW kf Y N s m_):=rfl
def Tv (kf:α) (Y:Int→α) (l0:Int→Int→α) (s:Bytes):α:=
 l0 0 0
def ncA (Y:Int→α) (N:Nat) (s:Bytes):α:=Tv kf Y (zW kf Y N s N) s
def swW (s:Bytes) (i:Nat):Int:=wV s (i:Int)*256+(bif decide (((i:Int)+1)<len s) then wV s ((i:Int)+1) else 0)
def swF (s:Bytes) (j:Nat) (c:Int):Int:=nkN c (swW s (2*j))
def nwx (s:Bytes):Int:=itN (swF s) ((s.length+1) / 2) 0 0
def Zh (s:Bytes):Int:=shut nwx s
theorem npw (s:Bytes):Zh s=itN (swF s) ((s.length+1) / 2) 0 0:=congrFun (nAr nwx) s
theorem nqn (Y:Int→α) (s:Bytes) (vN:G5 .str (.str s)) (aP:ss s=true):∃N,ncA kf Y N s=Y (Zh s):=by
 have hl:=vI vN
 refine⟨s.length+1, ?_⟩
 have HJ:s.length≤4294967296:=of_decide_eq_true aP
 rw[npw]
 unfold ncA Tv
 have key:∀(m n j:Nat) (c:Int),j+m=(s.length+1) / 2→m<n→zW kf Y (s.length+1) s n c ((2*j:Nat):Int)=Y (itN (swF s) m j c):=by
  intro m
  induction m with
  | zero=>
   intro n j c h1 h2
   obtain⟨n,rfl⟩:∃q,n=q+1:=⟨n - 1,by omega⟩
   have hf:decide (((2*j:Nat):Int)<len s)=false:=Lt (by simp only[len];omega)
   rw[Vr]
   simp only[zX,hf,aQ,itN]
  | succ m ih=>
   intro n j c h1 h2
   obtain⟨n,rfl⟩:∃q,n=q+1:=⟨n - 1,by omega⟩
   have cz:2*j<s.length:=by omega
   have hw1:nL (((2*j:Nat):Int)+1)=((2*j:Nat):Int)+1:=nF (by omega) (by omega)
   have hw2:nL (((2*j:Nat):Int)+2)=((2*(j+1):Nat):Int):=by rw[nF (by omega) (by omega)];omega
   have aP:L0 (decide (((2*j:Nat):Int)+1<len s)) (idx (((2*j:Nat):Int)+1) s) true=true:=xt (fun h=>by
    have h:=of_decide_eq_true h
    simp only[len] at h
    simp only[idx,aw,eX]
    omega) (fun _=>rfl)
   have b0:=sL s ((2*j:Nat):Int)
   have c0:=tY s ((2*j:Nat):Int)
   have b1:=sL s (((2*j:Nat):Int)+1)
   have c1:=tY s (((2*j:Nat):Int)+1)
   have e0:Zb .i64 (wV s ((2*j:Nat):Int)) 8=wV s ((2*j:Nat):Int)*256:=by rw[nz5,nF (by omega) (by omega)]
   have hv:(bif decide (((2*j:Nat):Int)+1<len s) then bits .or .i64 (wV s ((2*j:Nat):Int)*256) (wV s (((2*j:Nat):Int)+1)) else wV s ((2*j:Nat):Int)*256)=swW s (2*j):=by
    unfold swW
    cases decide (((2*j:Nat):Int)+1<len s)
    ·simp
    ·simp only[aj]
     rw[Yl 8 (y:=wV s (((2*j:Nat):Int)+1)) (by omega) (by omega) (by omega) (by omega) (by omega) (by omega)]
   rw[Vr]
   simp only[zX,oU cz,nR cz,hw1,hw2,aP,ng,aj,nF (n:=wV s ((2*j:Nat):Int)) (by omega) (by omega),nF (n:=wV s (((2*j:Nat):Int)+1)) (by omega) (by omega),e0,hv]
   exact ih n (j+1) _ (by omega) (by omega)
 exact key ((s.length+1) / 2) (s.length+1) 0 0 (by omega) (by omega)
def ND (Y:Int→α) (s:Bytes) (ov:Int→Int→α) (sum i:Int):α:=
 let z0:Bool:=decide (nL (i+1)<len s)
 let z1:Int:=Zb .i64 (nL (wV s i)) 8
 bif decide (i<len s) then
  bif Ed true (idx i s) then
   bif L0 z0 (Ed true (idx (nL (i+1)) s)) true then
    ov (nkN sum (bif z0 then nL (z1+(nL (wV s (nL (i+1))))) else z1)) (nL (i+2))
   else kf
  else kf
 else Y sum
def NC (Y:Int→α) (N:Nat) (s:Bytes) (m_:Nat):Int→Int→α:=
 Nat.rec (motive:=fun _=>Int→Int→α) (fun _ _=>kf) (fun _ ov=>ND kf Y s ov) m_
theorem WR (Y:Int→α) (N:Nat) (s:Bytes) (m_:Nat):NC kf Y N s (m_+1)=ND kf Y s (NC kf Y N s m_):=rfl
def TX (kf:α) (Y:Int→α) (l0:Int→Int→α) (s:Bytes):α:=
 l0 0 0
def nd9 (Y:Int→α) (N:Nat) (s:Bytes):α:=TX kf Y (NC kf Y N s N) s
theorem nsf (Y:Int→α) (s:Bytes) (vN:G5 .str (.str s)) (aP:ss s=true):∃N,nd9 kf Y N s=Y (Zh s):=by
 have hl:=vI vN
 refine⟨s.length+1, ?_⟩
 have HJ:s.length≤4294967296:=of_decide_eq_true aP
 rw[npw]
 unfold nd9 TX
 have key:∀(m n j:Nat) (c:Int),j+m=(s.length+1) / 2→m<n→NC kf Y (s.length+1) s n c ((2*j:Nat):Int)=Y (itN (swF s) m j c):=by
  intro m
  induction m with
  | zero=>
   intro n j c h1 h2
   obtain⟨n,rfl⟩:∃q,n=q+1:=⟨n - 1,by omega⟩
   have hf:decide (((2*j:Nat):Int)<len s)=false:=Lt (by simp only[len];omega)
   rw[WR]
   simp only[ND,hf,aQ,itN]
  | succ m ih=>
   intro n j c h1 h2
   obtain⟨n,rfl⟩:∃q,n=q+1:=⟨n - 1,by omega⟩
   have cz:2*j<s.length:=by omega
   have hw1:nL (((2*j:Nat):Int)+1)=((2*j:Nat):Int)+1:=nF (by omega) (by omega)
   have hw2:nL (((2*j:Nat):Int)+2)=((2*(j+1):Nat):Int):=by rw[nF (by omega) (by omega)];omega
   have aP:L0 (decide (((2*j:Nat):Int)+1<len s)) (idx (((2*j:Nat):Int)+1) s) true=true:=xt (fun h=>by
    have h:=of_decide_eq_true h
    simp only[len] at h
    simp only[idx,aw,eX]
    omega) (fun _=>rfl)
   have b0:=sL s ((2*j:Nat):Int)
   have c0:=tY s ((2*j:Nat):Int)
   have b1:=sL s (((2*j:Nat):Int)+1)
   have c1:=tY s (((2*j:Nat):Int)+1)
   have e0:Zb .i64 (wV s ((2*j:Nat):Int)) 8=wV s ((2*j:Nat):Int)*256:=by rw[nz5,nF (by omega) (by omega)]
   have hv:(bif decide (((2*j:Nat):Int)+1<len s) then nL (wV s ((2*j:Nat):Int)*256+wV s (((2*j:Nat):Int)+1)) else wV s ((2*j:Nat):Int)*256)=swW s (2*j):=by
    unfold swW
    cases decide (((2*j:Nat):Int)+1<len s)
    ·simp
    ·simp only[aj]
     rw[nF (by omega) (by omega)]
   rw[WR]
   simp only[ND,oU cz,nR cz,hw1,hw2,aP,ng,aj,nF (n:=wV s ((2*j:Nat):Int)) (by omega) (by omega),nF (n:=wV s (((2*j:Nat):Int)+1)) (by omega) (by omega),e0,hv]
   exact ih n (j+1) _ (by omega) (by omega)
 exact key ((s.length+1) / 2) (s.length+1) 0 0 (by omega) (by omega)
def nbV (Y:Int→α) (s:Bytes):α:=
 bif Ed true (ss s) then
  Y (nL (65535 - (Zh s)))
 else kf
def PE (s:Bytes):Int:=nL (65535 - Zh s)
theorem nbT (Y:Int→α) (s:Bytes) (aP:ss s=true):nbV kf Y s=Y (PE s):=by
 have h:ss s=true:=aP
 unfold nbV PE
 simp only[h,ng,aj]
def ncm (Y:Bytes→α) (s:Bytes) (at_:Int) (part:Bytes):α:=
 let z0:Bytes:=zi s (nL (at_+(len part)))
 bif bif decide (at_<0) then true else decide (nL ((len s) - (len part))<at_) then Y s
 else bif Ed (Ed (Ed (Ed true (okH s at_)) (oz (Pr s at_) part)) (okL s (nL (at_+(len part))))) (oz ((Pr s at_)++part) z0) then
   Y (((Pr s at_)++part)++z0)
  else kf
def rK (s:Bytes) (at_:Int) (part:Bytes):Bool:=decide (s.length≤4294967296) && decide (part.length≤4294967296)
def vj (s:Bytes) (at_:Int) (part:Bytes):Bytes:=bif !(rz s at_ (len part)) then s else s.take at_.toNat++part++s.drop (at_.toNat+part.length)
theorem nsI {s:Bytes} {at_:Int} {part:Bytes} (hs:s.length≤9223372036854775807):(vj s at_ part).length=s.length:=by
 unfold vj
 cases hw:rz s at_ (len part)
 ·rfl
 ·have:=(within_iff hs).1 hw
  simp only[len] at this
  simp only[Bool.not_true,aQ,fv,List.length_take,List.length_drop]
  omega
theorem nqg (Y:Bytes→α) (s:Bytes) (at_:Int) (part:Bytes) (aP:rK s at_ part=true):ncm kf Y s at_ part=Y (vj s at_ part):=by
 simp only[rK,aw,eX] at aP
 unfold ncm vj
 have nAP:(bif decide (at_<0) then true else decide (nL (len s - len part)<at_))= !(rz s at_ (len part)):=by
  have h1:=within_iff (s:=s) (at_:=at_) (n:=len part) (by omega)
  rw[nF (n:=len s - len part) (by simp only[len];omega) (by simp only[len];omega)]
  cases hw:rz s at_ (len part)
  ·by_cases h0:at_<0
   ·simp [h0]
   ·by_cases h2:len s - len part<at_
    ·simp [h0,h2]
    ·rw[h1.2 (by simp only[len] at h2 ⊢;omega)] at hw
     cases hw
  ·have:=h1.1 hw
   simp [show ¬at_<0 by omega,show ¬len s - len part<at_ by omega]
 rw[nAP]
 refine oA (fun _=>rfl) (fun hg=> ?_)
 have hw:=(within_iff (by omega)).1 (show rz s at_ (len part)=true by simpa using hg)
 have e1:nL (at_+len part)=at_+len part:=by simp only[len] at hw ⊢;exact nF (by omega) (by omega)
 have e2:Pr s at_=s.take at_.toNat:=by simp [Pr]
 have e3:zi s (at_+len part)=s.drop (at_.toNat+part.length):=by
  simp only[zi,List.take_length,len]
  congr 1
  omega
 have g1:okH s at_=true:=by simp only[len] at hw;simp only[okH,aw,eX];omega
 have g2:okL s (at_+len part)=true:=by simp only[len] at hw ⊢;simp only[okL,aw,eX];omega
 have g3:oz (s.take at_.toNat) part=true:=by simp only[oz,List.length_take,eX];omega
 have g4:oz (s.take at_.toNat++part) (s.drop (at_.toNat+part.length))=true:=by simp only[oz,fv,List.length_take,List.length_drop,eX];omega
 simp only[e1,e2,e3,g1,g2,g3,g4,ng,aj]
def ndX (Y:Bytes→α) (s:Bytes) (at_:Int) (part:Bytes):α:=
 let z0:Bytes:=zi s (nL (at_+(len part)))
 bif !(rz s at_ (len part)) then Y s
 else bif Ed (Ed (Ed (Ed true (okH s at_)) (oz (Pr s at_) part)) (okL s (nL (at_+(len part))))) (oz ((Pr s at_)++part) z0) then
   Y (((Pr s at_)++part)++z0)
  else kf
theorem nr8 (Y:Bytes→α) (s:Bytes) (at_:Int) (part:Bytes) (aP:rK s at_ part=true):ndX kf Y s at_ part=Y (vj s at_ part):=by
 simp only[rK,aw,eX] at aP
 unfold ndX vj
 refine oA (fun _=>rfl) (fun hg=> ?_)
 have hw:=(within_iff (by omega)).1 (show rz s at_ (len part)=true by simpa using hg)
 have e1:nL (at_+len part)=at_+len part:=by simp only[len] at hw ⊢;exact nF (by omega) (by omega)
 have e2:Pr s at_=s.take at_.toNat:=by simp [Pr]
 have e3:zi s (at_+len part)=s.drop (at_.toNat+part.length):=by
  simp only[zi,List.take_length,len]
  congr 1
  omega
 have g1:okH s at_=true:=by simp only[len] at hw;simp only[okH,aw,eX];omega
 have g2:okL s (at_+len part)=true:=by simp only[len] at hw ⊢;simp only[okL,aw,eX];omega
 have g3:oz (s.take at_.toNat) part=true:=by simp only[oz,List.length_take,eX];omega
 have g4:oz (s.take at_.toNat++part) (s.drop (at_.toNat+part.length))=true:=by simp only[oz,fv,List.length_take,List.length_drop,eX];omega
 simp only[e1,e2,e3,g1,g2,g3,g4,ng,aj]
def Uc (Y:Bytes→Bool→α) (src dst kind length:Int):α:=
 let z0:Bytes:=((ph src)++(ph dst))++(toStr ([[.int 0],[.int (IntKind.wrap .u8 kind)]]))
 bif bif !(nf src 0 4294967295) then true else bif !(nf dst 0 4294967295) then true else bif !(nf kind 0 255) then true else !(nf length 0 65535) then Y [] false
 else bif Ed (Ed (Ed true (oz (ph src) (ph dst))) (oz ((ph src)++(ph dst)) (toStr ([[.int 0],[.int (IntKind.wrap .u8 kind)]])))) (oz z0 (nT length)) then
   Y (z0++(nT length)) true
  else kf
def rq (src dst kind length:Int):Bytes×Bool:=
 bif bif !(nf src 0 4294967295) then true else bif !(nf dst 0 4294967295) then true else bif !(nf kind 0 255) then true else !(nf length 0 65535) then ([],false)
 else (ph src++ph dst++toStr ([[.int 0],[.int (IntKind.wrap .u8 kind)]])++nT length,true)
theorem Zf (src dst kind length:Int):(rq src dst kind length).1.length≤12:=by
 have a:=qv src
 have b:=qv dst
 have c:=oa length
 unfold rq
 cases (bif !(nf src 0 4294967295) then true else bif !(nf dst 0 4294967295) then true else bif !(nf kind 0 255) then true else !(nf length 0 65535))
 ·simp only[aQ,fv,qP,dx,List.length_nil]
  omega
 ·exact Nat.zero_le _
theorem Ub (Y:Bytes→Bool→α) (src dst kind length:Int):Uc kf Y src dst kind length=Y (rq src dst kind length).1 (rq src dst kind length).2:=by
 have a:=qv src
 have b:=qv dst
 have c:=oa length
 have g1:oz (ph src) (ph dst)=true:=U2 (by omega)
 have g2:∀r,oz (ph src++ph dst) (toStr [[.int 0],r])=true:=fun r=>U2 (by simp only[fv,qP,dx,List.length_nil];omega)
 have g3:∀r,oz (ph src++ph dst++toStr [[.int 0],r]) (nT length)=true:=fun r=>U2 (by simp only[fv,qP,dx,List.length_nil];omega)
 unfold Uc rq
 simp only[g1,g2,g3,ng,aj]
 exact J9 (K:=fun r:Bytes×Bool=>Y r.1 r.2) rfl rfl
def TD (Y:Int→α) (kind:Int):α:=
 bif kind==6 then Y 16
 else Y 6
def Oh (kind:Int):Int:=TD id kind
theorem nqD (Y:Int→α) (kind:Int):TD Y kind=Y (Oh kind):=by
 exact J9 rfl rfl
def Vx (Y:Bytes→α) (g:nz):α:=
 let z0:Bytes:=(nT g.om)++(nT g.n9)
 let z1:Bytes:=z0++(ph g.Seq)
 let z2:Bytes:=z1++(ph g.Ack)
 let z3:Bytes:=z2++(toStr ([[.int 80],[.int (IntKind.wrap .u8 g.Flags)]]))
 let z4:Bytes:=z3++(nT g.sw)
 let z5:Bytes:=z4++(nT 0)
 let z6:Bytes:=z5++(nT 0)
 let z7:Bytes:=nT (nL (8+(len g.Body)))
 let z8:Bytes:=z0++z7
 let z9:Bytes:=z8++(nT 0)
 bif Ed true (oz (nT g.om) (nT g.n9)) then
  bif g.Kind==6 then
   bif Ed (Ed (Ed (Ed (Ed (Ed (Ed true (oz z0 (ph g.Seq))) (oz z1 (ph g.Ack))) (oz z2 (toStr ([[.int 80],[.int (IntKind.wrap .u8 g.Flags)]])))) (oz z3 (nT g.sw))) (oz z4 (nT 0))) (oz z5 (nT 0))) (oz z6 g.Body) then
    Y (z6++g.Body)
   else kf
  else bif Ed (Ed (Ed true (oz z0 z7)) (oz z8 (nT 0))) (oz z9 g.Body) then
    Y (z9++g.Body)
   else kf
 else kf
def nbG (q:nz):Bytes:=bif q.Kind==6 then nT q.om++nT q.n9++ph q.Seq++ph q.Ack++toStr ([[.int 80],[.int (IntKind.wrap .u8 q.Flags)]])++nT q.sw++nT 0++nT 0
 else nT q.om++nT q.n9++nT (nL (8+(len q.Body)))++nT 0
def pb (q:nz):Bytes:=nbG q++q.Body
def nwY (q:nz):Bool:=decide (q.Body.length≤1000)
theorem npL (q:nz):(nbG q).length≤20:=by
 have a:=oa q.om
 have b:=oa q.n9
 have c:=qv q.Seq
 have d:=qv q.Ack
 have e:=oa q.sw
 have f:=oa 0
 have h:=oa (nL (8+(len q.Body)))
 unfold nbG
 cases q.Kind==6
 ·simp only[aQ,fv];omega
 ·simp only[aj,fv,qP,dx,List.length_nil];omega
theorem nbQ (q:nz):(pb q).length≤q.Body.length+20:=by
 have:=npL q
 simp only[pb,fv]
 omega
theorem njA (Y:Bytes→α) (g:nz) (aP:nwY g=true):Vx kf Y g=Y (pb g):=by
 have hb:g.Body.length≤1000:=of_decide_eq_true aP
 have a:=oa g.om
 have b:=oa g.n9
 have c:=qv g.Seq
 have d:=qv g.Ack
 have e:=oa g.sw
 have f:=oa 0
 have f4:=qv 0
 have hh:=oa (nL (8+(len g.Body)))
 unfold Vx pb nbG
 refine nY (by simp only[gy,oz,ss,fv,qP,dx,List.length_nil,eX,true_and,and_true];omega) ?_
 cases g.Kind==6
 ·simp only[aQ]
  refine nY (by simp only[gy,oz,ss,fv,qP,dx,List.length_nil,eX,true_and,and_true];omega) ?_
  rfl
 ·simp only[aj]
  refine nY (by simp only[gy,oz,ss,fv,qP,dx,List.length_nil,eX,true_and,and_true];omega) ?_
  rfl
def T4 (Y:Bytes→Bool→α) (src dst:Int) (g:nz):α:=
 let z0:Bytes×Bool:=rq src dst g.Kind (len (pb g))
 let z1:Bytes:=z0.1++(pb g)
 let z2:Int:=PE z1
 let z3:Bytes:=nT (bif bif g.Kind==17 then z2==0 else false then 65535 else z2)
 bif !(sk g) then Y [] false
 else bif Ed true (nwY g) then
   bif !z0.2 then Y [] false
   else bif Ed (Ed true (oz z0.1 (pb g))) (ss z1) then
     bif Ed true (rK (pb g) (Oh g.Kind) z3) then
      Y (vj (pb g) (Oh g.Kind) z3) true
     else kf
    else kf
  else kf
theorem nx_ (kind:Int):Oh kind=bif kind==6 then 16 else 6:=by
 unfold Oh TD
 cases kind==6<;>rfl
def noR (src dst:Int) (g:nz):Int:=PE ((rq src dst g.Kind (len (pb g))).1++pb g)
def rN (src dst:Int) (g:nz):Bytes×Bool:=
 bif !(sk g) then ([],false) else bif !(rq src dst g.Kind (len (pb g))).2 then ([],false)
 else (vj (pb g) (Oh g.Kind) (nT (bif bif g.Kind==17 then noR src dst g==0 else false then 65535 else noR src dst g)),true)
theorem nha (Y:Bytes→Bool→α) (src dst:Int) (g:nz):T4 kf Y src dst g=Y (rN src dst g).1 (rN src dst g).2:=by
 unfold T4 rN
 refine oA (K:=fun r:Bytes×Bool=>Y r.1 r.2) (fun _=>rfl) (fun hg=> ?_)
 have hs:sk g=true:=by simpa using hg
 have a:=nxm hs
 have b:=nbQ g
 have hp:=Zf src dst g.Kind (len (pb g))
 have g1:nwY g=true:=Lu (by omega)
 have g2:oz (rq src dst g.Kind (len (pb g))).1 (pb g)=true:=U2 (by omega)
 have g3:∀v,rK (pb g) (Oh g.Kind) (nT v)=true:=fun v=>by
  have:=oa v
  simp only[rK,aw,eX];omega
 have g4:ss ((rq src dst g.Kind (len (pb g))).1++pb g)=true:=Lu (by rw[fv];omega)
 simp only[g1,g2,g3,g4,ng,aj]
 exact J9 (K:=fun r:Bytes×Bool=>Y r.1 r.2) rfl rfl
def UE (Y:Bytes→Bool→α) (src dst:Int) (g:nz):α:=
 let z0:Bytes:=(nT g.om)++(nT g.n9)
 let z1:Bytes:=z0++(ph g.Seq)
 let z2:Bytes:=z1++(ph g.Ack)
 let z3:Bytes:=z2++(toStr ([[.int 80],[.int (IntKind.wrap .u8 g.Flags)]]))
 let z4:Bytes:=z3++(nT g.sw)
 let z5:Bytes:=nT (nL (8+(len g.Body)))
 let z6:Bytes:=z0++z5
 let z7:Bytes:=bif g.Kind==6 then z4++(ph 0) else z6++(nT 0)
 let z8:Bytes:=z7++g.Body
 let z9:Bytes×Bool:=rq src dst g.Kind (len z8)
 let z10:Bytes:=z9.1
 let z11:Bytes:=z10++z8
 let z12:Int:=bif g.Kind==6 then 16 else 6
 let z13:Int:=PE z11
 let z14:Bytes:=nT (bif bif z13==0 then g.Kind==17 else false then 65535 else z13)
 bif !(sk g) then Y [] false
 else bif Ed true (oz (nT g.om) (nT g.n9)) then
   bif L0 (g.Kind==6) (Ed (Ed (Ed (Ed (Ed true (oz z0 (ph g.Seq))) (oz z1 (ph g.Ack))) (oz z2 (toStr ([[.int 80],[.int (IntKind.wrap .u8 g.Flags)]])))) (oz z3 (nT g.sw))) (oz z4 (ph 0))) (Ed (Ed true (oz z0 z5)) (oz z6 (nT 0))) then
    bif Ed true (oz z7 g.Body) then
     bif !z9.2 then Y [] false
     else bif Ed (Ed true (oz z10 z8)) (ss z11) then
       bif Ed true (rK z8 z12 z14) then
        Y (vj z8 z12 z14) true
       else kf
      else kf
    else kf
   else kf
  else kf
theorem nhG (Y:Bytes→Bool→α) (src dst:Int) (g:nz):UE kf Y src dst g=Y (rN src dst g).1 (rN src dst g).2:=by
 unfold UE rN
 refine oA (K:=fun r:Bytes×Bool=>Y r.1 r.2) (fun _=>rfl) (fun hg=> ?_)
 have hs:sk g=true:=by simpa using hg
 have ha:=nxm hs
 have hb:=nbQ g
 have hp:=Zf src dst g.Kind (len (pb g))
 have a:=oa g.om
 have b:=oa g.n9
 have c:=qv g.Seq
 have d:=qv g.Ack
 have e:=oa g.sw
 have f:=oa 0
 have f4:=qv 0
 have hh:=oa (nL (8+(len g.Body)))
 have e0:ph 0=nT 0++nT 0:=by unfold ph nT Sp So;rfl
 have eh:(bif g.Kind==6 then nT g.om++nT g.n9++ph g.Seq++ph g.Ack++toStr ([[.int 80],[.int (IntKind.wrap .u8 g.Flags)]])++nT g.sw++ph 0 else nT g.om++nT g.n9++nT (nL (8+(len g.Body)))++nT 0)=nbG g:=by
  unfold nbG
  cases g.Kind==6
  ·rfl
  ·simp only[aj,e0,List.append_assoc]
 refine nY (by simp only[gy,oz,ss,fv,qP,dx,List.length_nil,eX,true_and,and_true];omega) ?_
 refine nY (xt (fun _=>(by simp only[gy,oz,ss,fv,qP,dx,List.length_nil,eX,true_and,and_true];omega)) (fun _=>(by simp only[gy,oz,ss,fv,qP,dx,List.length_nil,eX,true_and,and_true];omega))) ?_
 rw[eh]
 have DK:=npL g
 refine nY (by simp only[gy,oz,ss,fv,qP,dx,List.length_nil,eX,true_and,and_true];omega) ?_
 have eb:nbG g++g.Body=pb g:=rfl
 rw[eb]
 have es:(bif g.Kind==6 then (16:Int) else 6)=Oh g.Kind:=(nx_ _).symm
 have g2:oz (rq src dst g.Kind (len (pb g))).1 (pb g)=true:=U2 (by omega)
 have g3:∀v,rK (pb g) (Oh g.Kind) (nT v)=true:=fun v=>by
  have:=oa v
  simp only[rK,aw,eX];omega
 have ez:(bif noR src dst g==0 then g.Kind==17 else false)=(bif g.Kind==17 then noR src dst g==0 else false):=by
  cases noR src dst g==0<;>cases g.Kind==17<;>rfl
 have es2:PE ((rq src dst g.Kind (len (pb g))).1++pb g)=noR src dst g:=rfl
 have g4:ss ((rq src dst g.Kind (len (pb g))).1++pb g)=true:=Lu (by rw[fv];omega)
 simp only[es,es2,ez,g2,g3,g4,ng,aj]
 exact J9 (K:=fun r:Bytes×Bool=>Y r.1 r.2) rfl rfl
def neM (Y:Bool→α) (d:wT):α:=
 Y (bif nf d.Tos 0 255 then bif nf d.Ttl 0 255 then bif nf d.nsH 0 255 then bif nf d.Id 0 65535 then bif nf d.Src 0 4294967295 then bif nf d.Dst 0 4294967295 then decide (len d.Body≤380) else false else false else false else false else false else false)
def nwS (d:wT):Bool:=neM id d
theorem npB (Y:Bool→α) (d:wT):neM Y d=Y (nwS d):=by
 rfl
def ncf (Y:Bytes→Bool→α) (d:wT):α:=
 let z0:Bytes:=nT (nL (20+(len d.Body)))
 let z1:Bytes:=(toStr ([[.int 69],[.int (IntKind.wrap .u8 d.Tos)]]))++z0
 let z2:Bytes:=z1++(nT d.Id)
 let z3:Bytes:=z2++(nT 16384)
 let z4:Bytes:=z3++(toStr ([[.int (IntKind.wrap .u8 d.Ttl)],[.int (IntKind.wrap .u8 d.nsH)]]))
 let z5:Bytes:=z4++(nT 0)
 let z6:Bytes:=z5++(ph d.Src)
 let z7:Bytes:=z6++(ph d.Dst)
 let z8:Bytes:=nT (PE z7)
 bif !(nwS d) then Y [] false
 else bif Ed (Ed (Ed (Ed (Ed (Ed (Ed true (oz (toStr ([[.int 69],[.int (IntKind.wrap .u8 d.Tos)]])) z0)) (oz z1 (nT d.Id))) (oz z2 (nT 16384))) (oz z3 (toStr ([[.int (IntKind.wrap .u8 d.Ttl)],[.int (IntKind.wrap .u8 d.nsH)]])))) (oz z4 (nT 0))) (oz z5 (ph d.Src))) (oz z6 (ph d.Dst)) then
   bif Ed (Ed true (ss z7)) (rK z7 10 z8) then
    Y (vj z7 10 z8) true
   else kf
  else kf
def ipz (d:wT):Bytes:=toStr ([[.int 69],[.int (IntKind.wrap .u8 d.Tos)]])++nT (nL (20+(len d.Body)))++nT d.Id++nT 16384++toStr ([[.int (IntKind.wrap .u8 d.Ttl)],[.int (IntKind.wrap .u8 d.nsH)]])++nT 0++ph d.Src++ph d.Dst
theorem nyP (d:wT):(ipz d).length≤20:=by
 have a:=oa (nL (20+(len d.Body)))
 have b:=oa d.Id
 have c:=oa 16384
 have e:=oa 0
 have f:=qv d.Src
 have h:=qv d.Dst
 simp only[ipz,fv,qP,dx,List.length_nil]
 omega
def vi (d:wT):Bytes×Bool:=bif !(nwS d) then ([],false) else (vj (ipz d) 10 (nT (PE (ipz d))),true)
theorem nxD {d:wT} (h:nwS d=true):d.Body.length≤380:=by
 unfold nwS neM at h
 by_cases h3:len d.Body≤380
 ·simp only[len] at h3
  omega
 ·rw[Lt h3] at h
  revert h
  cases nf d.Tos 0 255<;>cases nf d.Ttl 0 255<;>cases nf d.nsH 0 255<;>cases nf d.Id 0 65535<;>cases nf d.Src 0 4294967295<;>cases nf d.Dst 0 4294967295<;>simp
theorem nkQ (d:wT):(vi d).1.length≤20:=by
 unfold vi
 cases nwS d
 ·exact Nat.zero_le _
 ·have:=nyP d
  simp only[Bool.not_true,aQ]
  rw[nsI (by omega)]
  exact this
theorem npu {d:wT} (h:(vi d).2=true):nwS d=true:=by
 unfold vi at h
 cases hi:nwS d
 ·rw[hi] at h;cases h
 ·rfl
theorem nce (Y:Bytes→Bool→α) (d:wT):ncf kf Y d=Y (vi d).1 (vi d).2:=by
 have a:=oa (nL (20+(len d.Body)))
 have b:=oa d.Id
 have c:=oa 16384
 have e:=oa 0
 have f:=qv d.Src
 have h:=qv d.Dst
 unfold ncf vi
 refine oA (K:=fun r:Bytes×Bool=>Y r.1 r.2) (fun _=>rfl) (fun hg=> ?_)
 refine nY (by simp only[gy,oz,ss,fv,qP,dx,List.length_nil,eX,true_and,and_true];omega) ?_
 have hz:=nyP d
 have g3:∀v,rK (ipz d) 10 (nT v)=true:=fun v=>by
  have:=oa v
  simp only[rK,aw,eX];omega
 have g4:ss (ipz d)=true:=Lu (by omega)
 refine nY ?_ rfl
 rw[gy,gy]
 exact⟨⟨rfl,g4⟩,g3 _⟩
def neD (Y:Bytes→Bool→α) (d:wT):α:=
 bif !((vi d).2) then Y [] false
 else bif Ed true (oz ((vi d).1) d.Body) then
   Y (((vi d).1)++d.Body) true
  else kf
def Oi (d:wT):Bytes×Bool:=bif !(vi d).2 then ([],false) else ((vi d).1++d.Body,true)
theorem nxB (d:wT):(Oi d).1.length≤400:=by
 unfold Oi
 cases h:(vi d).2
 ·exact Nat.zero_le _
 ·have h1:=nxD (npu h)
  have h2:=nkQ d
  simp only[Bool.not_true,aQ,fv]
  omega
theorem neB (Y:Bytes→Bool→α) (d:wT):neD kf Y d=Y (Oi d).1 (Oi d).2:=by
 unfold neD Oi
 refine oA (K:=fun r:Bytes×Bool=>Y r.1 r.2) (fun _=>rfl) (fun hg=> ?_)
 have h1:=nxD (npu (d:=d) (by simpa using hg))
 have h2:=nkQ d
 refine nY (by simp only[gy,oz,ss,fv,qP,dx,List.length_nil,eX,true_and,and_true];omega) rfl
def neN (Y:Bytes→α) (s:Bytes):α:=
 let z0:Bytes:=nmw 0 (nL (46 - (len s)))
 bif decide (46≤len s) then Y s
 else bif Ed (Ed true (ng8 0 (nL (46 - (len s))))) (oz s z0) then
   Y (s++z0)
  else kf
def Sc (s:Bytes):Bytes:=bif decide (46≤len s) then s else s++OD (46 - len s) 0
theorem nxE {s:Bytes} {n:Nat} (h:s.length≤n) (h46:46≤n):46≤(Sc s).length∧(Sc s).length≤n:=by
 unfold Sc
 by_cases hc:46≤len s
 ·simp only[Lu hc,aj]
  simp only[len] at hc
  omega
 ·simp only[Lt hc,aQ,fv,OD,List.length_replicate]
  simp only[len] at hc ⊢
  omega
theorem ns4 (Y:Bytes→α) (s:Bytes) (vN:G5 .str (.str s)):neN kf Y s=Y (Sc s):=by
 have hl:=vI vN
 have hl0:0≤len s:=by simp [len]
 have GJ:len s≤9223372036854775807:=by simp only[len];omega
 unfold neN Sc
 by_cases h:46≤len s
 ·have h2:¬len s<46:=by omega
  simp only[h,h2,decide_true,decide_false,aj,aQ]
 ·have h2:len s<46:=by omega
  have e:nL (46 - len s)=46 - len s:=nF (by omega) (by omega)
  have o1:Rl (46 - len s) 0=true:=nZ.2 (by omega)
  have o2:oz s (OD (46 - len s) 0)=true:=U2 (by simp only[OD,List.length_replicate,len] at*;omega)
  simp only[h,h2,decide_true,decide_false,aj,aQ,e,ng8,nmw,o1,o2,ng]
def nf_ (Y:Bytes→α) (s:Bytes):α:=
 let z0:Bytes:=OD (nL (46 - (len s))) 0
 bif decide (len s<46) then
  bif Ed (Ed true (Rl (nL (46 - (len s))) 0)) (oz s z0) then
   Y (s++z0)
  else kf
 else Y s
theorem nuB (Y:Bytes→α) (s:Bytes) (vN:G5 .str (.str s)):nf_ kf Y s=Y (Sc s):=by
 have hl:=vI vN
 have hl0:0≤len s:=by simp [len]
 have GJ:len s≤9223372036854775807:=by simp only[len];omega
 unfold nf_ Sc
 by_cases h:46≤len s
 ·have h2:¬len s<46:=by omega
  simp only[h,h2,decide_true,decide_false,aj,aQ]
 ·have h2:len s<46:=by omega
  have e:nL (46 - len s)=46 - len s:=nF (by omega) (by omega)
  have o1:Rl (46 - len s) 0=true:=nZ.2 (by omega)
  have o2:oz s (OD (46 - len s) 0)=true:=U2 (by simp only[OD,List.length_replicate,len] at*;omega)
  simp only[h,h2,decide_true,decide_false,aj,aQ,e,o1,o2,ng]
def PX (Y:Bool→α) (e:rl):α:=
 Y (bif nf e.Dst 0 281474976710655 then bif nf e.Src 0 281474976710655 then bif nf e.rO (-1) 4095 then bif nf e.SJ 1536 65535 then bif e.SJ != 33024 then nf (len e.Body) 46 400 else false else false else false else false else false)
def PF (e:rl):Bool:=PX id e
theorem nkY (Y:Bool→α) (e:rl):PX Y e=Y (PF e):=by
 rfl
def ncP (Y:Bytes→α) (a:Int):α:=
 bif Ed true (oz (nT (wE .i64 a 32)) (ph (bits .and .i64 a 4294967295))) then
  Y ((nT (wE .i64 a 32))++(ph (bits .and .i64 a 4294967295)))
 else kf
def rY (a:Int):Bytes:=nT (wE .i64 a 32)++ph (bits .and .i64 a 4294967295)
theorem Nl (x:Int):(rY x).length≤6:=by
 have a:=oa (wE .i64 x 32)
 have b:=qv (bits .and .i64 x 4294967295)
 simp only[rY,fv]
 omega
theorem ncO (Y:Bytes→α) (a:Int):ncP kf Y a=Y (rY a):=by
 have q1:=oa (wE .i64 a 32)
 have q2:=qv (bits .and .i64 a 4294967295)
 unfold ncP rY
 refine nY (by simp only[gy,oz,ss,fv,qP,dx,List.length_nil,eX,true_and,and_true];omega) rfl
def nbR (Y:Bytes→Bool→α) (e:rl):α:=
 let z0:Bytes:=(rY e.Dst)++(rY e.Src)
 let z1:Bytes:=(nT 33024)++(nT e.rO)
 let z2:Bytes:=bif decide (0≤e.rO) then z0++z1 else z0
 let z3:Bytes:=z2++(nT e.SJ)
 bif !(PF e) then Y [] false
 else bif Ed true (oz (rY e.Dst) (rY e.Src)) then
   bif L0 (decide (0≤e.rO)) (Ed (Ed true (oz (nT 33024) (nT e.rO))) (oz z0 z1)) true then
    bif Ed (Ed true (oz z2 (nT e.SJ))) (oz z3 e.Body) then
     Y (z3++e.Body) true
    else kf
   else kf
  else kf
def ng2 (e:rl):Bytes:=bif decide (0≤e.rO) then rY e.Dst++rY e.Src++(nT 33024++nT e.rO) else rY e.Dst++rY e.Src
def zk (e:rl):Bytes×Bool:=bif !(PF e) then ([],false) else (ng2 e++nT e.SJ++e.Body,true)
theorem npy (e:rl):(ng2 e).length≤16:=by
 have a:=Nl e.Dst
 have b:=Nl e.Src
 have c:=oa 33024
 have d:=oa e.rO
 unfold ng2
 cases decide (0≤e.rO)
 ·simp only[aQ,fv];omega
 ·simp only[aj,fv];omega
theorem nww {e:rl} (h:PF e=true):e.Body.length≤400:=by
 unfold PF PX at h
 cases hb:nf (len e.Body) 46 400
 ·rw[hb] at h
  revert h
  cases nf e.Dst 0 281474976710655<;>cases nf e.Src 0 281474976710655<;>cases nf e.rO (-1) 4095<;>cases nf e.SJ 1536 65535<;>cases e.SJ != 33024<;>simp
 ·have:=nZ.1 hb
  simp only[len] at this
  omega
theorem npX (Y:Bytes→Bool→α) (e:rl):nbR kf Y e=Y (zk e).1 (zk e).2:=by
 have a:=Nl e.Dst
 have b:=Nl e.Src
 have c:=oa 33024
 have d:=oa e.rO
 have f:=oa e.SJ
 unfold nbR zk
 refine oA (K:=fun r:Bytes×Bool=>Y r.1 r.2) (fun _=>rfl) (fun hg=> ?_)
 have hb:=nww (e:=e) (by simpa using hg)
 refine nY (by simp only[gy,oz,ss,fv,qP,dx,List.length_nil,eX,true_and,and_true];omega) ?_
 refine nY (xt (fun _=>(by simp only[gy,oz,ss,fv,qP,dx,List.length_nil,eX,true_and,and_true];omega)) (fun _=>rfl)) ?_
 have eh:(bif decide (0≤e.rO) then rY e.Dst++rY e.Src++(nT 33024++nT e.rO) else rY e.Dst++rY e.Src)=ng2 e:=rfl
 rw[eh]
 have hh:=npy e
 refine nY (by simp only[gy,oz,ss,fv,qP,dx,List.length_nil,eX,true_and,and_true];omega) rfl
def ndv (Y:Bytes→Bool→α) (e:rl):α:=
 let z0:Bytes:=(rY e.Dst)++(rY e.Src)
 let z1:Bytes:=z0++(nT 33024)
 let z2:Bytes:=bif decide (0≤e.rO) then z1++(nT e.rO) else z0
 let z3:Bytes:=z2++(nT e.SJ)
 bif !(PF e) then Y [] false
 else bif Ed true (oz (rY e.Dst) (rY e.Src)) then
   bif L0 (decide (0≤e.rO)) (Ed (Ed true (oz z0 (nT 33024))) (oz z1 (nT e.rO))) true then
    bif Ed (Ed true (oz z2 (nT e.SJ))) (oz z3 e.Body) then
     Y (z3++e.Body) true
    else kf
   else kf
  else kf
theorem nrO (Y:Bytes→Bool→α) (e:rl):ndv kf Y e=Y (zk e).1 (zk e).2:=by
 have a:=Nl e.Dst
 have b:=Nl e.Src
 have c:=oa 33024
 have d:=oa e.rO
 have f:=oa e.SJ
 unfold ndv zk
 refine oA (K:=fun r:Bytes×Bool=>Y r.1 r.2) (fun _=>rfl) (fun hg=> ?_)
 have hb:=nww (e:=e) (by simpa using hg)
 refine nY (by simp only[gy,oz,ss,fv,qP,dx,List.length_nil,eX,true_and,and_true];omega) ?_
 refine nY (xt (fun _=>(by simp only[gy,oz,ss,fv,qP,dx,List.length_nil,eX,true_and,and_true];omega)) (fun _=>rfl)) ?_
 have eh:(bif decide (0≤e.rO) then rY e.Dst++rY e.Src++nT 33024++nT e.rO else rY e.Dst++rY e.Src)=ng2 e:=by
  unfold ng2
  cases decide (0≤e.rO)
  ·rfl
  ·simp only[aj,List.append_assoc]
 rw[eh]
 have hh:=npy e
 refine nY (by simp only[gy,oz,ss,fv,qP,dx,List.length_nil,eX,true_and,and_true];omega) rfl
def Xf (Y:Bytes→Bool→α) (p:nj):α:=
 let z0:Bytes×Bool:=zk (⟨p.sK,p.sW,p.rO,2048,Sc ((Oi (⟨p.Tos,p.Id,p.Ttl,p.pG.Kind,p.o_,p.qm,(rN p.o_ p.qm p.pG).1⟩:wT)).1)⟩:rl)
 bif !(qH p) then Y [] false
 else Y z0.1 z0.2
def YH (p:nj):rl:=(⟨p.sK,p.sW,p.rO,2048,Sc (Oi (⟨p.Tos,p.Id,p.Ttl,p.pG.Kind,p.o_,p.qm,(rN p.o_ p.qm p.pG).1⟩:wT)).1⟩:rl)
def oH (p:nj):Bytes×Bool:=bif !(qH p) then ([],false) else zk (YH p)
theorem Xd (Y:Bytes→Bool→α) (p:nj):Xf Y p=Y (oH p).1 (oH p).2:=by
 unfold Xf oH
 exact J9 (K:=fun r:Bytes×Bool=>Y r.1 r.2) rfl rfl
def Ov (Y:Bool→α) (p:nj):α:=
 Y (bif qH p then decide (len p.pG.Body≤128) else false)
def uJ (p:nj):Bool:=Ov id p
theorem ncj (Y:Bool→α) (p:nj):Ov Y p=Y (uJ p):=by
 rfl
theorem ni8 (p:Nat→List DC→Bool):∀(l:Rows) (s:Nat),q_ p l s=true↔∃i,i<l.length∧p (s+i) (nth l i)=true
 | [],s=>by simp [q_]
 | r::l,s=>by
  unfold q_
  cases hp:p s r
  ·simp only[aQ,ni8 p l (s+1)]
   constructor
   ·rintro ⟨i,h1,h2⟩
    refine⟨i+1,by simp;omega, ?_⟩
    rw[show s+(i+1)=s+1+i by omega]
    exact h2
   ·rintro ⟨i,h1,h2⟩
    cases i with
    | zero=>exfalso;rw[show nth (r::l) 0=r from rfl,Nat.add_zero,hp] at h2;cases h2
    | succ i=>
     refine⟨i,by simp only[dx] at h1;omega, ?_⟩
     rw[show s+1+i=s+(i+1) by omega]
     exact h2
  ·simp only[aj,true_iff]
   exact⟨0,by simp,hp⟩
theorem nwy {p:Nat→List DC→Bool} {l:Rows} {s:Nat} (h:q_ p l s=false):∀i,i<l.length→p (s+i) (nth l i)=false:=by
 intro i hi
 cases hp:p (s+i) (nth l i)
 ·rfl
 ·rw[(ni8 p l s).2 ⟨i,hi,hp⟩] at h
  cases h
theorem xD (p:Nat→List DC→Bool):∀(l:Rows) (s:Nat),(findIdx p l s= -1∧∀i,i<l.length→p (s+i) (nth l i)=false)∨∃i,i<l.length∧findIdx p l s=((s+i:Nat):Int)∧p (s+i) (nth l i)=true
 | [],s=> .inl ⟨rfl,by simp⟩
 | r::l,s=>by
  unfold findIdx
  cases hp:p s r
  ·rcases xD p l (s+1) with ⟨h1,h2⟩ | ⟨i,h1,h2,h3⟩
   ·refine .inl ⟨h1,fun i hi=> ?_⟩
    cases i with
    | zero=>exact hp
    | succ i=>
     rw[show s+(i+1)=s+1+i by omega]
     exact h2 i (by simp only[dx] at hi;omega)
   ·refine .inr ⟨i+1,by simp;omega, ?_, ?_⟩
    ·rw[aQ,h2,show s+(i+1)=s+1+i by omega]
    ·rw[show s+(i+1)=s+1+i by omega]
     exact h3
  ·exact .inr ⟨0,by simp,rfl,hp⟩
theorem nmY {x m:Int} (h0:0≤x) (hm:0<m):0≤Int.tmod x m∧Int.tmod x m<m:=⟨Int.tmod_nonneg _ h0,Int.tmod_lt_of_pos _ hm⟩
theorem nAp (l:Rows) (i j:Nat) (x:List DC) (hi:i<l.length):nth (l.set i x) j=if j=i then x else nth l j:=by
 simp only[nth,List.getD_eq_getElem?_getD]
 by_cases h:j=i
 ·subst h
  rw[List.getElem?_set_self hi,if_pos rfl]
  rfl
 ·rw[List.getElem?_set_ne (fun e=>h e.symm),if_neg h]
theorem nzI (a b:Bool):(bif a then b else false)=true↔a=true∧b=true:=by cases a<;>cases b<;>simp
theorem nwX {p:Nat→List DC→Bool} {l:Rows} (h:∀i,i<l.length→p i (nth l i)=false):q_ p l 0=false:=by
 cases ha:q_ p l 0
 ·rfl
 ·obtain⟨i,hi,h2⟩:=(ni8 p l 0).1 ha
  rw[Nat.zero_add,h i hi] at h2
  cases h2
theorem nyM {p:Nat→Bool} :∀ {m i:Nat},zh p m i=false→∀j,i≤j→j<i+m→p j=false
 | 0,_,_,j,h1,h2=>by omega
 | m+1,i,h,j,h1,h2=>by
  rw[zh] at h
  cases hp:p i
  ·rw[hp] at h
   by_cases hj:j=i
   ·rw[hj];exact hp
   ·exact nyM h j (by omega) (by omega)
  ·rw[hp] at h;cases h
theorem nsK {p:Nat→List DC→Bool} :∀ {l:Rows} {s:Nat},q_ p l s=false→∀r∈l,∃i,p i r=false
 | [],_,_,r,h=>by simp at h
 | x::xs,s,h,r,hr=>by
  simp only[q_] at h
  cases hp:p s x
  ·rw[hp] at h
   rcases List.mem_cons.1 hr with rfl | hr
   ·exact⟨s,hp⟩
   ·exact nsK h r hr
  ·rw[hp] at h
   cases h
theorem UZ {l:Rows} (h:pf l=true):len l≤96∧∀r∈l,x9 r=false:=by
 unfold pf at h
 by_cases h9:96<len l
 ·simp [h9] at h
 ·refine⟨by omega,fun r hr=> ?_⟩
  simp only[Lt h9,aQ] at h
  cases ha:q_ (fun i r=>bif x9 r then true else zh (fun j=>bif (rI (nth l j) 0)==(rI r 0) then (rI (nth l j) 1)==(rI r 1) else false) i 0) l 0
  ·obtain⟨i,hi⟩:=nsK ha r hr
   cases hb:x9 r
   ·rfl
   ·rw[hb] at hi
    cases hi
  ·rw[ha] at h
   cases h
def pgs (l:Rows):Prop:=∀i,i<l.length→∃p:Bytes,nth l i=[.str p]∧p.length=128
theorem nxi {l:Rows} (hw:G5 (.sl [.str]) (.sl l)) (h:qo (⟨l⟩:na)=true):pgs l∧l.length≤64:=by
 unfold qo at h
 cases ha:q_ (fun _ r=>(len (rS r 0)) != 128) l 0
 ·rw[show q_ (fun _ r=>(len (rS r 0)) != 128) (⟨l⟩:na).nP 0=false from ha] at h
  have hl:len l≤64:=of_decide_eq_true h
  refine⟨fun i hi=> ?_,by simp only[len] at hl;omega⟩
  obtain⟨_,hw⟩:=oG hw
  have h1:=nxk (hw (nth l i) (sr hi))
  have h2:=nwy ha i hi
  refine⟨rS (nth l i) 0,h1.symm, ?_⟩
  have h3:len (rS (nth l i) 0)=128:=by simpa using h2
  simp only[len] at h3
  omega
 ·rw[show q_ (fun _ r=>(len (rS r 0)) != 128) (⟨l⟩:na).nP 0=true from ha] at h
  cases h
theorem nAU {l:Rows} (h:pgs l) (hl:l.length≤64):qo (⟨l⟩:na)=true:=by
 unfold qo
 rw[nwX (fun i hi=> ?_)]
 ·exact Lu (by simp only[len];omega)
 ·obtain⟨p,hp,h2⟩:=h i hi
  show (len (rS (nth l i) 0) != 128)=false
  rw[hp]
  show ((p.length:Int) != 128)=false
  rw[h2]
  rfl
theorem nz8 (a b:Nat):Int.tdiv (a:Int) (b:Int)=((a / b:Nat):Int):=rfl
theorem nz9 (a b:Nat):Int.tmod (a:Int) (b:Int)=((a % b:Nat):Int):=rfl
theorem nmW (a:Nat):Int.tdiv (a:Int) 128=((a / 128:Nat):Int):=nz8 a 128
theorem nmX (a:Nat):Int.tmod (a:Int) 128=((a % 128:Nat):Int):=nz9 a 128
def nli (Y:Int→α) (Z:Rows) (O address:Int) (write:Bool):α:=
 let z0:Int:=tQ Z O (nL (Int.tdiv address 128))
 let z1:Bool:=decide (z0<0)
 let z2:Bool:=Ed true (idx z0 Z)
 let z3:List DC:=nth Z (Int.toNat z0)
 bif decide (address<0) then Y (-1)
 else bif L0 z1 true (L0 write z2 true) then
   bif bif z1 then true else bif write then !(rB z3 3) else false then Y (-1)
   else bif z2 then
     Y (nL ((nL ((rI z3 2)*128))+(Int.tmod address 128)))
    else kf
  else kf
def nuk (Z:Rows) (O address:Int):Int:=tQ Z O (nL (Int.tdiv address 128))
def place (Z:Rows) (O address:Int) (write:Bool):Int:=
 bif decide (address<0) then -1
 else bif bif decide (nuk Z O address<0) then true else bif write then !(rB (nth Z (Int.toNat (nuk Z O address))) 3) else false then -1
 else nL ((nL ((rI (nth Z (Int.toNat (nuk Z O address))) 2)*128))+(Int.tmod address 128))
theorem nul (Z:Rows) (O address:Int):nuk Z O address<0∨∃i:Nat,i<Z.length∧nuk Z O address=(i:Int)∧rI (nth Z i) 0=O:=by
 unfold nuk tQ
 rcases xD (fun _ r=>bif (rI r 0)==O then (rI r 1)==(nL (Int.tdiv address 128)) else false) Z 0 with ⟨h,_⟩ | ⟨i,h1,h2,h3⟩
 ·exact .inl (by rw[h];decide)
 ·refine .inr ⟨i,h1,by rw[h2];simp, ?_⟩
  have:=(nzI _ _).1 h3
  simpa using this.1
theorem nw_ (Y:Int→α) (Z:Rows) (O address:Int) (write:Bool) (qh:G5 (.sl [.i,.i,.i,.bool]) (.sl Z)):nli kf Y Z O address write=Y (place Z O address write):=by
 obtain⟨hl,_⟩:=oG qh
 unfold nli place
 refine J9 rfl ?_
 show (bif L0 (decide (nuk Z O address<0)) true (L0 write (Ed true (idx (nuk Z O address) Z)) true) then _ else kf)=_
 rcases nul Z O address with h | ⟨i,h1,h2,_⟩
 ·have e:decide (nuk Z O address<0)=true:=Lu h
  have e2:∀x,L0 true true x=true:=fun x=>by cases x<;>rfl
  have e':decide (tQ Z O (nL (Int.tdiv address 128))<0)=true:=e
  simp only[e,e',e2,aj]
 ·have hx:idx (nuk Z O address) Z=true:=by rw[h2];exact nR h1
  have Ck:idx (tQ Z O (nL (Int.tdiv address 128))) Z=true:=hx
  simp only[hx,Ck,ng,Pm,aj]
  exact J9 rfl rfl
def YU (Y:Bool→α) (m:na) (at_ n:Int):α:=
 let z0:Int:=nL ((len m.nP)*128)
 Y (bif qo m then bif decide (0≤n) then bif decide (n≤z0) then bif decide (0≤at_) then decide (at_≤nL (z0 - n)) else false else false else false else false)
def within (m:na) (at_ n:Int):Bool:=YU id m at_ n
theorem nvF (Y:Bool→α) (m:na) (at_ n:Int):YU Y m at_ n=Y (within m at_ n):=by
 rfl
def nbo (Y:Bool→α) (m:na) (at_ n:Int):α:=
 let z0:Int:=nL (128*(len m.nP))
 Y (bif qo m then bif decide (0≤n) then bif decide (0≤at_) then bif decide (at_≤z0) then decide (n≤nL (z0 - at_)) else false else false else false else false)
theorem npb (Y:Bool→α) (m:na) (at_ n:Int) (U5:kd na.ct m.enc) (PM:G5 .i (.int at_)) (h_n:G5 .i (.int n)):nbo Y m at_ n=Y (within m at_ n):=by
 have hn:=wR h_n
 have ha:=wR PM
 unfold nbo within YU
 refine congrArg Y ?_
 show (bif qo m then _ else false)=(bif qo m then _ else false)
 cases hm:qo m
 ·rfl
 ·have He:=(nxi (na.xz U5) hm).2
  have e1:nL (128*(len m.nP))=128*(m.nP.length:Int):=by simp only[len];exact nF (by omega) (by omega)
  have e2:nL ((len m.nP)*128)=128*(m.nP.length:Int):=by simp only[len];rw[nF (by omega) (by omega)];omega
  simp only[e1,e2,aj]
  rw[Bool.eq_iff_iff]
  simp only[nzI,eX]
  constructor
  ·rintro ⟨h1,h2,h3,h4⟩
   rw[nF (by omega) (by omega)] at h4
   refine⟨h1,by omega,h2, ?_⟩
   rw[nF (by omega) (by omega)]
   omega
  ·rintro ⟨h1,h2,h3,h4⟩
   rw[nF (by omega) (by omega)] at h4
   refine⟨h1,h3,by omega, ?_⟩
   rw[nF (by omega) (by omega)]
   omega
theorem W6 {l:Rows} {a n:Int} (hw:G5 (.sl [.str]) (.sl l)) (h:within (⟨l⟩:na) a n=true):pgs l∧l.length≤64∧0≤n∧0≤a∧a+n≤128*l.length:=by
 have h0:(bif qo (⟨l⟩:na) then bif decide (0≤n) then bif decide (n≤nL ((len l)*128)) then bif decide (0≤a) then decide (a≤nL (nL ((len l)*128) - n)) else false else false else false else false)=true:=h
 simp only[nzI,eX] at h0
 obtain⟨h1,h2,h3,h4,h5⟩:=h0
 obtain⟨p1,p2⟩:=nxi hw h1
 have e:nL ((len l)*128)=128*(l.length:Int):=by simp only[len];rw[nF (by omega) (by omega)];omega
 rw[e] at h3 h5
 rw[nF (by omega) (by omega)] at h5
 exact⟨p1,p2,h2,h4,by omega⟩
theorem nzm {l:Rows} {a n:Nat} (hp:pgs l) (hl:l.length≤64) (h:a+n≤128*l.length):within (⟨l⟩:na) (a:Int) (n:Int)=true:=by
 have e:nL ((len l)*128)=128*(l.length:Int):=by simp only[len];rw[nF (by omega) (by omega)];omega
 have h0:(bif qo (⟨l⟩:na) then bif decide (0≤(n:Int)) then bif decide ((n:Int)≤nL ((len l)*128)) then bif decide (0≤(a:Int)) then decide ((a:Int)≤nL (nL ((len l)*128) - (n:Int))) else false else false else false else false)=true:=by
  simp only[nzI,eX]
  refine⟨nAU hp hl,by omega,by rw[e];omega,by omega, ?_⟩
  rw[e,nF (by omega) (by omega)]
  omega
 exact h0
def nbN (p:Bytes) (k:Nat) (s:Bytes):Bytes:=p.take k++(s.take (128 - k)++p.drop (k+min s.length (128 - k)))
def Sa (l:Rows) (a:Nat) (s:Bytes):Rows:=l.set (a / 128) [.str (nbN (rS (nth l (a / 128)) 0) (a % 128) s)]
def npq:Nat→Nat→Bytes→Rows→Rows
 | 0,_,_,l=>l
 | m+1,a,s,l=>bif decide (0<s.length) then npq m (a+min s.length (128 - a % 128)) (s.drop (min s.length (128 - a % 128))) (Sa l a s) else l
theorem nyH {p:Bytes} {k:Nat} {s:Bytes} (h:p.length=128) (hk:k≤128):(nbN p k s).length=128:=by
 simp only[nbN,fv,List.length_take,List.length_drop]
 omega
theorem nkJ {l:Rows} {a:Nat} {s:Bytes} (h:pgs l) (ha:a / 128<l.length):pgs (Sa l a s)∧(Sa l a s).length=l.length:=by
 refine⟨fun i hi=> ?_,by simp [Sa]⟩
 unfold Sa at hi ⊢
 rw[List.length_set] at hi
 rw[nAp l (a / 128) i _ ha]
 by_cases he:i=a / 128
 ·rw[if_pos he]
  obtain⟨p,hp,h2⟩:=h (a / 128) ha
  refine⟨_,rfl, ?_⟩
  rw[hp]
  exact nyH h2 (by omega)
 ·rw[if_neg he]
  exact h i hi
theorem nyd:∀(m a:Nat) (s:Bytes) (l:Rows),pgs l→a+s.length≤128*l.length→pgs (npq m a s l)∧(npq m a s l).length=l.length
 | 0,_,_,_,h,_=>⟨h,rfl⟩
 | m+1,a,s,l,h,ha=>by
  unfold npq
  by_cases hs:0<s.length
  ·rw[Lu hs,aj]
   have h1:=nkJ (a:=a) (s:=s) h (by omega)
   have h2:=nyd m (a+min s.length (128 - a % 128)) (s.drop (min s.length (128 - a % 128))) (Sa l a s) h1.1 (by rw[h1.2,List.length_drop];omega)
   exact⟨h2.1,h2.2.trans h1.2⟩
  ·rw[Lt hs,aQ]
   exact⟨h,rfl⟩
def uL (Y:na→Bool→α) (ov:Int→Bytes→Rows→α) (sj:Int) (uc:Bytes) (pH:Rows):α:=
 let z0:Bool:=Ed (Ed true (idx (nL (Int.tdiv sj 128)) pH)) (inl (Int.toNat (nL (Int.tdiv sj 128))) pH)
 let z1:List DC:=nth pH (Int.toNat (nL (Int.tdiv sj 128)))
 let z2:Rows:=ofStr (rS z1 0)
 let z3:Int:=cpN uc z2 (Int.toNat (Int.tmod sj 128))
 bif decide (0<len uc) then
  bif z0 then
   bif Ed (Ed true ((okL z2 (Int.tmod sj 128)) && (decide (0<List.length z2)))) (decide (Int.toNat (Int.tmod sj 128)≤List.length z2)) then
    bif z0 then
     bif Ed true (okL uc z3) then
      ov (nL (sj+z3)) (zi uc z3) (List.set pH (Int.toNat (nL (Int.tdiv sj 128))) (bX z1 0 [.str (toStr (cpR uc z2 (Int.toNat (Int.tmod sj 128))))]))
     else kf
    else kf
   else kf
  else kf
 else Y (⟨pH⟩:na) true
def wY (Y:na→Bool→α) (N m_:Nat):Int→Bytes→Rows→α:=
 Nat.rec (motive:=fun _=>Int→Bytes→Rows→α) (fun _ _ _=>kf) (fun _ ov=>uL kf Y ov) m_
theorem QX (Y:na→Bool→α) (N m_:Nat):wY kf Y N (m_+1)=uL kf Y (wY kf Y N m_):=rfl
def O7 (Y:na→Bool→α) (l0:Int→Bytes→Rows→α) (m:na) (at_:Int) (s:Bytes):α:=
 bif Ed true (sJ m) then
  bif !(within m at_ (len s)) then Y (n7 m) false
  else l0 at_ s ((n7 m).nP)
 else kf
def Vv (Y:na→Bool→α) (N:Nat) (m:na) (at_:Int) (s:Bytes):α:=O7 kf Y (wY kf Y N N) m at_ s
def sO (m:na) (at_:Int) (s:Bytes):Bool:=sm m.nP
def qE (m:na) (at_:Int) (s:Bytes):na×Bool:=bif !(within m at_ (len s)) then (m,false) else (⟨npq s.length at_.toNat s m.nP⟩,true)
theorem nwM (a b:Rows):toStr (a++b)=toStr a++toStr b:=by simp [toStr]
theorem nyt (s:Bytes) (n:Nat):(ofStr s).take n=ofStr (s.take n):=by simp [ofStr,List.map_take]
theorem nys (s:Bytes) (n:Nat):(ofStr s).drop n=ofStr (s.drop n):=by simp [ofStr,List.map_drop]
theorem nzL {p s:Bytes} {k:Nat} (h:p.length=128):toStr (cpR s (ofStr p) k)=nbN p k s:=by
 unfold cpR nbN
 rw[t_,h,nwM,nwM,nyt,nys,zG,zG,zG]
theorem njx (Y:na→Bool→α) (m:na) (at_:Int) (s:Bytes) (U5:kd na.ct m.enc) (aP:sO m at_ s=true):∃N,Vv kf Y N m at_ s=Y (qE m at_ s).1 (qE m at_ s).2:=by
 have hp0:G5 (.sl [.str]) (.sl m.nP):=na.xz U5
 have Je:sJ m=true:=aP
 refine⟨s.length+1, ?_⟩
 unfold Vv O7 qE
 rw[show n7 m=m from rfl]
 simp only[Je,ng,aj]
 cases hw:within m at_ (len s)
 ·rfl
 ·obtain⟨p1,p2,p3,p4,p5⟩:=W6 hp0 hw
  obtain⟨a,rfl⟩:=Int.eq_ofNat_of_zero_le p4
  simp only[Bool.not_true,aQ,J6]
  have key:∀(q n a:Nat) (s:Bytes) (l:Rows),s.length≤q→q<n→pgs l→l.length≤64→a+s.length≤128*l.length→wY kf Y (s.length+1) n (a:Int) s l=Y (⟨npq q a s l⟩:na) true:=by
   intro q
   induction q with
   | zero=>
    intro n a s l h1 h2 h3 h4 h5
    obtain⟨n,rfl⟩:∃q,n=q+1:=⟨n - 1,by omega⟩
    have:s=[]:=List.length_eq_zero_iff.1 (by omega)
    subst this
    rw[QX]
    simp only[uL,show decide (0<len ([]:Bytes))=false by decide,aQ,npq]
   | succ q ih=>
    intro n a s l h1 h2 h3 h4 h5
    obtain⟨n,rfl⟩:∃q,n=q+1:=⟨n - 1,by omega⟩
    rw[QX]
    by_cases hs:0<s.length
    ·have hd:decide (0<len s)=true:=Lu (by simp only[len];omega)
     have hpg:a / 128<l.length:=by omega
     obtain⟨p,e1,e2⟩:=h3 (a / 128) hpg
     have w1:nL (((a / 128:Nat):Int))=((a / 128:Nat):Int):=nF (by omega) (by omega)
     have c1:cpN s (ofStr p) (a % 128)=((min s.length (128 - a % 128):Nat):Int):=by unfold cpN;rw[t_,e2]
     have w2:nL ((a:Int)+((min s.length (128 - a % 128):Nat):Int))=((a+min s.length (128 - a % 128):Nat):Int):=by rw[nF (by omega) (by omega)];omega
     have g1:okL (ofStr p) (((a % 128:Nat)):Int)=true:=by simp only[okL,t_,e2,aw,eX];omega
     have g2:decide (0<List.length (ofStr p))=true:=Lu (by rw[t_];omega)
     have g3:decide (a % 128≤List.length (ofStr p))=true:=Lu (by rw[t_];omega)
     have g4:okL s ((min s.length (128 - a % 128):Nat):Int)=true:=by simp only[okL,aw,eX];omega
     have g5:zi s ((min s.length (128 - a % 128):Nat):Int)=s.drop (min s.length (128 - a % 128)):=by simp [zi]
     have st:=nkJ (a:=a) (s:=s) h3 hpg
     have this:=ih n (a+min s.length (128 - a % 128)) (s.drop (min s.length (128 - a % 128))) (Sa l a s) (by rw[List.length_drop];omega) (by omega) st.1 (by rw[st.2];exact h4) (by rw[st.2,List.length_drop];omega)
     have e5:Sa l a s=l.set (a / 128) [.str (nbN p (a % 128) s)]:=by unfold Sa;rw[e1];rfl
     unfold npq
     rw[Lu hs,aj]
     rw[e5] at this ⊢
     simp only[uL,hd,nmW,nmX,w1,nR hpg,sq hpg,J6,e1,nf2,c1,w2,g1,g2,g3,g4,g5,nzL e2,nbK,Bool.and_self,ng,nr,aj]
     exact this
    ·have:s=[]:=List.length_eq_zero_iff.1 (by omega)
     subst this
     simp only[uL,show decide (0<len ([]:Bytes))=false by decide,aQ]
     rfl
  exact key s.length (s.length+1) a s m.nP (Nat.le_refl _) (by omega) p1 p2 (by simp only[len] at p5;omega)
theorem nva {l:Rows} (h:pgs l) (hl:l.length≤64):G5 (.sl [.str]) (.sl l):=by
 simp only[G5]
 refine⟨l,rfl,by rw[ng7];omega,fun r hr=> ?_⟩
 obtain⟨i,hi,rfl⟩:=List.getElem_of_mem hr
 obtain⟨p,hp,h2⟩:=h i hi
 have e:l[i]=nth l i:=by simp [nth,hi]
 rw[e,hp]
 exact nyK (by simp only[G5];exact⟨p,rfl,by rw[ng7];omega⟩) nxz
theorem nbP {l:Rows} {a:Int} {s:Bytes} (h:pgs l) (hl:l.length≤64):pgs (qE (⟨l⟩:na) a s).1.nP∧(qE (⟨l⟩:na) a s).1.nP.length=l.length:=by
 unfold qE
 cases hw:within (⟨l⟩:na) a (len s)
 ·exact⟨h,rfl⟩
 ·obtain⟨_,_,p3,p4,p5⟩:=W6 (nva h hl) hw
  exact nyd s.length a.toNat s l h (by simp only[len] at p5;omega)
def U0 (Q:Nat→Prop):Rows→Nat→Prop
 | [],n=>n=0
 | r::rs,n=>∃p k:Nat,r=[.int (p:Int),.int (k:Int)]∧1≤k∧k≤n∧p % 128+k≤128∧Q (p / 128)∧U0 Q rs (n - k)
def nrL (Z:Rows) (O:Int) (write:Bool) (nwF:Rows):Nat→Int→Int→Rows→Rows×Bool
 | 0,_,_,o=>(o,true)
 | m+1,a,n,o=>bif decide (0<n) then
   bif bif decide (place Z O a write<0) then true else !(within (⟨nwF⟩:na) (place Z O a write) (wD n (nL (128 - Int.tmod a 128)))) then ([],false)
   else bif bif decide (nL (a+wD n (nL (128 - Int.tmod a 128)))<0) then decide (0<nL (n - wD n (nL (128 - Int.tmod a 128)))) else false then ([],false)
   else nrL Z O write nwF m (nL (a+wD n (nL (128 - Int.tmod a 128)))) (nL (n - wD n (nL (128 - Int.tmod a 128)))) (o++[[.int (place Z O a write),.int (wD n (nL (128 - Int.tmod a 128)))]])
  else (o,true)
theorem nuj {a n:Int} (ha:0≤a) (hn:0<n) (h4:n≤4096):1≤wD n (nL (128 - Int.tmod a 128))∧wD n (nL (128 - Int.tmod a 128))≤n∧Int.tmod a 128+wD n (nL (128 - Int.tmod a 128))≤128∧nL (n - wD n (nL (128 - Int.tmod a 128)))=n - wD n (nL (128 - Int.tmod a 128)):=by
 have r:=nmY (x:=a) (m:=128) ha (by omega)
 rw[nF (n:=128 - Int.tmod a 128) (by omega) (by omega)]
 unfold wD
 split
 ·refine⟨by omega,by omega,by omega,nF (by omega) (by omega)⟩
 ·refine⟨by omega,by omega,by omega,nF (by omega) (by omega)⟩
def sC (Z:Rows) (m:na) (O at_ n:Int) (write:Bool):Rows×Bool:=
 bif bif !(pf Z) then true else bif !(qo m) then true else !(nf n 0 4096) then ([],false)
 else bif n==0 then ([],true)
 else bif decide (at_<0) then ([],false)
 else nrL Z O write m.nP (n.toNat+1) at_ n []
def Qr (Y:Rows→Bool→α) (Z:Rows) (O:Int) (write:Bool) (ta:Rows) (ov:Int→Int→Rows→α) (sj n_1:Int) (oc:Rows):α:=
 let z0:Int:=wD n_1 (nL (128 - (Int.tmod sj 128)))
 let z1:Int:=nL (sj+z0)
 let z2:Int:=nL (n_1 - z0)
 bif decide (0<n_1) then
  bif bif decide (place Z O sj write<0) then true else !(within (⟨ta⟩:na) (place Z O sj write) z0) then Y [] false
  else bif Ed true (qx 16 oc ([[.int (place Z O sj write),.int z0]])) then
    bif bif decide (z1<0) then decide (0<z2) else false then Y [] false
    else ov z1 z2 (oc++([[.int (place Z O sj write),.int z0]]))
   else kf
 else Y oc true
def Qq (Y:Rows→Bool→α) (N:Nat) (Z:Rows) (O:Int) (write:Bool) (ta:Rows) (m_:Nat):Int→Int→Rows→α:=
 Nat.rec (motive:=fun _=>Int→Int→Rows→α) (fun _ _ _=>kf) (fun _ ov=>Qr kf Y Z O write ta ov) m_
theorem nnt (Y:Rows→Bool→α) (N:Nat) (Z:Rows) (O:Int) (write:Bool) (ta:Rows) (m_:Nat):Qq kf Y N Z O write ta (m_+1)=Qr kf Y Z O write ta (Qq kf Y N Z O write ta m_):=rfl
def YQ (kf:α) (Y:Rows→Bool→α) (l0:Rows→Int→Int→Rows→α) (Z:Rows) (m:na) (O at_ n:Int) (write:Bool):α:=
 bif bif !(pf Z) then true else bif !(qo m) then true else !(nf n 0 4096) then Y [] false
 else bif n==0 then Y [] true
 else bif decide (at_<0) then Y [] false
 else l0 m.nP at_ n []
def nii (Y:Rows→Bool→α) (N:Nat) (Z:Rows) (m:na) (O at_ n:Int) (write:Bool):α:=YQ kf Y (fun ta=>Qq kf Y N Z O write ta N) Z m O at_ n write
theorem nvB (Y:Rows→Bool→α) (Z:Rows) (m:na) (O at_ n:Int) (write:Bool) (PM:G5 .i (.int at_)):∃N,nii kf Y N Z m O at_ n write=Y (sC Z m O at_ n write).1 (sC Z m O at_ n write).2:=by
 refine⟨n.toNat+2, ?_⟩
 unfold nii YQ sC
 refine oA (K:=fun r:Rows×Bool=>Y r.1 r.2) (fun _=>rfl) (fun hg=>oA (K:=fun r:Rows×Bool=>Y r.1 r.2) (fun _=>rfl) (fun Hx=>oA (K:=fun r:Rows×Bool=>Y r.1 r.2) (fun _=>rfl) (fun ha=> ?_)))
 have hb:0≤n∧n≤4096:=by
  cases hc:nf n 0 4096
  ·rw[hc] at hg
   cases h1:pf Z<;>cases h2:qo m<;>rw[h1,h2] at hg<;>cases hg
  ·exact nZ.1 hc
 have ha:=of_decide_eq_false ha
 have FX:=wR PM
 have key:∀(q N':Nat) (a n:Int) (o:Rows),n<q→q≤N'→0≤n→n≤4096→a≤9223372036854775807→(0<n→0≤a)→o.length+n.toNat≤5000→∀M,Qq kf Y M Z O write m.nP N' a n o=Y (nrL Z O write m.nP q a n o).1 (nrL Z O write m.nP q a n o).2:=by
  intro q
  induction q with
  | zero=>intro N' a n o h1 h2 h3;omega
  | succ q ih=>
   intro N' a n o h1 h2 h3 h4 h7 h5 h6 M
   obtain⟨N',rfl⟩:∃p,N'=p+1:=⟨N' - 1,by omega⟩
   rw[nnt]
   by_cases hn:0<n
   ·obtain⟨r1,r2,r3,r4⟩:=nuj (h5 hn) hn h4
    have hr:∀x:List DC,qx 16 o [x]=true:=fun x=>Oc (by simp only[dx,List.length_nil];omega) (by omega)
    unfold nrL
    simp only[Qr,Lu hn,hr,ng,aj]
    refine oA (K:=fun r:Rows×Bool=>Y r.1 r.2) (fun _=>rfl) (fun _=>oA (K:=fun r:Rows×Bool=>Y r.1 r.2) (fun _=>rfl) (fun hov=> ?_))
    rw[r4] at hov ⊢
    refine ih N' _ _ _ (by omega) (by omega) (by omega) (by omega) (nAa _) (fun hp=> ?_) (by simp only[fv,dx,List.length_nil];omega) M
    rw[Lu hp] at hov
    have hov:decide (nL (a+wD n (nL (128 - Int.tmod a 128)))<0)=false:=by
     cases hd:decide (nL (a+wD n (nL (128 - Int.tmod a 128)))<0)
     ·rfl
     ·rw[hd] at hov;cases hov
    have:=of_decide_eq_false hov
    omega
   ·unfold nrL
    simp only[Qr,Lt hn,aQ]
 exact key (n.toNat+1) (n.toNat+2) at_ n [] (by omega) (by omega) hb.1 hb.2 FX.2 (fun _=>by omega) (by simp only[List.length_nil];omega) _
theorem U0.len {Q:Nat→Prop} :∀ {l:Rows} {n:Nat},U0 Q l n→l.length≤n
 | [],_,_=>Nat.zero_le _
 | r::rs,n,⟨p,k,_,h1,h2,_,_,h3⟩=>by
  have:=h3.len
  simp only[dx]
  omega
theorem U0.imp {Q Q':Nat→Prop} (h:∀i,Q i→Q' i):∀ {l:Rows} {n:Nat},U0 Q l n→U0 Q' l n
 | [],_,h0=>h0
 | r::rs,n,⟨p,k,e,h1,h2,h3,h4,h5⟩=>⟨p,k,e,h1,h2,h3,h _ h4,h5.imp h⟩
theorem nx0 {Z:Rows} (hM:pf Z=true) {O a:Int} {write:Bool} (ha:0≤a):place Z O a write<0∨∃i:Nat,i<Z.length∧rI (nth Z i) 0=O∧0≤rI (nth Z i) 2∧rI (nth Z i) 2≤63∧
  place Z O a write=rI (nth Z i) 2*128+Int.tmod a 128:=by
 unfold place
 rw[Lt (show ¬a<0 by omega),aQ]
 rcases nul Z O a with h | ⟨i,h1,h2,h3⟩
 ·rw[Lu h]
  exact .inl (show (-1:Int)<0 by decide)
 ·rw[h2,J6]
  cases (bif decide ((i:Int)<0) then true else bif write then !(rB (nth Z i) 3) else false)
  ·have hb:=(UZ hM).2 (nth Z i) (sr h1)
   have hp:nf (rI (nth Z i) 2) 0 63=true:=by
    unfold x9 at hb
    cases h4:nf (rI (nth Z i) 2) 0 63
    ·rw[h4] at hb
     revert hb
     cases nf (rI (nth Z i) 0) 0 7<;>cases nf (rI (nth Z i) 1) 0 1023<;>simp
    ·rfl
   have hp:=nZ.1 hp
   have r:=nmY (x:=a) (m:=128) ha (by omega)
   refine .inr ⟨i,h1,h3,hp.1,hp.2, ?_⟩
   rw[aQ,nF (n:=rI (nth Z i) 2*128) (by omega) (by omega),nF (by omega) (by omega)]
  ·exact .inl (show (-1:Int)<0 by decide)
theorem nwH {Z nwF:Rows} (hM:pf Z=true) {O:Int} {write:Bool} :∀(q:Nat) (a n:Int) (o:Rows),n<q→0≤n→n≤4096→(0<n→0≤a)→(nrL Z O write nwF q a n o).2=true→
  ∃rs,(nrL Z O write nwF q a n o).1=o++rs∧U0 (fun p=>∃i:Nat,i<Z.length∧rI (nth Z i) 0=O∧rI (nth Z i) 2=(p:Int)) rs n.toNat
 | 0,a,n,o,h1,h2,_,_,_=>by omega
 | q+1,a,n,o,h1,h2,h3,h4,h5=>by
  unfold nrL at h5 ⊢
  by_cases hn:0<n
  ·rw[Lu hn,aj] at h5 ⊢
   have ha:=h4 hn
   obtain⟨r1,r2,r3,r4⟩:=nuj ha hn h3
   cases hc:(bif decide (place Z O a write<0) then true else !(within (⟨nwF⟩:na) (place Z O a write) (wD n (nL (128 - Int.tmod a 128)))))
   ·rw[hc,aQ] at h5
    rw[aQ]
    cases hov:(bif decide (nL (a+wD n (nL (128 - Int.tmod a 128)))<0) then decide (0<nL (n - wD n (nL (128 - Int.tmod a 128)))) else false)
    ·rw[hov,aQ] at h5
     rw[aQ]
     rw[r4] at h5 hov ⊢
     obtain⟨rs,e1,e2⟩:=nwH hM q _ _ _ (by omega) (by omega) (by omega) (fun hp=>by
      rw[Lu hp] at hov
      have hov:decide (nL (a+wD n (nL (128 - Int.tmod a 128)))<0)=false:=by
       cases hd:decide (nL (a+wD n (nL (128 - Int.tmod a 128)))<0)
       ·rfl
       ·rw[hd] at hov;cases hov
      have:=of_decide_eq_false hov
      omega) h5
     refine⟨[.int (place Z O a write),.int (wD n (nL (128 - Int.tmod a 128)))]::rs,by rw[e1,List.append_assoc];rfl, ?_⟩
     rcases nx0 hM (O:=O) (write:=write) ha with nw3 | ⟨i,i1,i2,i3,i4,i5⟩
     ·rw[Lu nw3] at hc
      cases hc
     ·have r:=nmY (x:=a) (m:=128) ha (by omega)
      have hdiv:(place Z O a write).toNat / 128=(rI (nth Z i) 2).toNat∧(place Z O a write).toNat % 128=(Int.tmod a 128).toNat:=by
       rw[i5]
       omega
      refine⟨(place Z O a write).toNat,(wD n (nL (128 - Int.tmod a 128))).toNat, ?_,by omega,by omega,by rw[hdiv.2];omega,⟨i,i1,i2,by rw[hdiv.1];omega⟩, ?_⟩
      ·rw[Int.toNat_of_nonneg (by rw[i5];omega),Int.toNat_of_nonneg (by omega)]
      ·have:(n - wD n (nL (128 - Int.tmod a 128))).toNat=n.toNat - (wD n (nL (128 - Int.tmod a 128))).toNat:=by omega
       rw[←this]
       exact e2
    ·rw[hov] at h5
     cases h5
   ·rw[hc] at h5
    cases h5
  ·rw[Lt hn,aQ] at h5 ⊢
   refine⟨[],by simp, ?_⟩
   show n.toNat=0
   omega
theorem nz3 {Z:Rows} {m:na} {O at_ n:Int} {write:Bool} (hw:G5 (.sl [.str]) (.sl m.nP)) (h:(sC Z m O at_ n write).2=true):
  pgs m.nP∧m.nP.length≤64∧U0 (fun p=>∃i:Nat,i<Z.length∧rI (nth Z i) 0=O∧rI (nth Z i) 2=(p:Int)) (sC Z m O at_ n write).1 n.toNat∧n≤4096:=by
 unfold sC at h ⊢
 cases hM:pf Z
 ·rw[hM] at h;cases h
 cases hm:qo m
 ·rw[hM,hm] at h;cases h
 cases hb:nf n 0 4096
 ·rw[hM,hm,hb] at h;cases h
 have hb:=nZ.1 hb
 obtain⟨p1,p2⟩:=nxi hw hm
 rw[hM,hm,show nf n 0 4096=true from nZ.2 hb] at h
 simp only[Bool.not_true,aQ] at h ⊢
 refine⟨p1,p2, ?_,hb.2⟩
 by_cases h0:n=0
 ·subst h0
  exact rfl
 ·rw[show (n==0)=false by simpa using h0,aQ] at h ⊢
  by_cases ha:at_<0
  ·rw[Lu ha] at h;cases h
  ·rw[Lt ha,aQ] at h ⊢
   obtain⟨rs,e1,e2⟩:=nwH hM (n.toNat+1) at_ n [] (by omega) hb.1 hb.2 (fun _=>by omega) h
   rw[e1]
   exact e2
theorem Ym {Z:Rows} {m:na} {O at_ n:Int} {write:Bool} (hw:G5 (.sl [.str]) (.sl m.nP)) (h:(sC Z m O at_ n write).2=true):
  pgs m.nP∧m.nP.length≤64∧U0 (fun _=>True) (sC Z m O at_ n write).1 n.toNat∧(sC Z m O at_ n write).1.length≤5000:=by
 obtain⟨a,b,c,d⟩:=nz3 hw h
 have:=c.len
 exact⟨a,b,c.imp (fun _ _=>trivial),by omega⟩
def nwf:Rows→Bytes→Rows→Rows
 | [],_,l=>l
 | r::rs,s,l=>nwf rs (s.drop (Int.toNat (rI r 1))) (qE (⟨l⟩:na) (rI r 0) (s.take (Int.toNat (rI r 1)))).1.nP
def XI (Y:na→Bool→α) (x:Int) (oD:Rows) (ov:Bytes→Int→Rows→α) (uc:Bytes) (oy:Int) (pH:Rows):α:=
 let z0:Bytes:=Pr uc (rI (nth oD (Int.toNat oy)) 1)
 bif decide (oy<x) then
  bif Ed (Ed true (idx oy oD)) (inl (Int.toNat oy) oD) then
   bif Ed (Ed true (okH uc (rI (nth oD (Int.toNat oy)) 1))) (sO (⟨pH⟩:na) (rI (nth oD (Int.toNat oy)) 0) z0) then
    bif Ed true (okL uc (rI (nth oD (Int.toNat oy)) 1)) then
     ov (zi uc (rI (nth oD (Int.toNat oy)) 1)) (nL (oy+1)) (((qE (⟨pH⟩:na) (rI (nth oD (Int.toNat oy)) 0) z0).1).nP)
    else kf
   else kf
  else kf
 else Y (⟨pH⟩:na) true
def XH (Y:na→Bool→α) (N:Nat) (x:Int) (oD:Rows) (m_:Nat):Bytes→Int→Rows→α:=
 Nat.rec (motive:=fun _=>Bytes→Int→Rows→α) (fun _ _ _=>kf) (fun _ ov=>XI kf Y x oD ov) m_
theorem nia (Y:na→Bool→α) (N:Nat) (x:Int) (oD:Rows) (m_:Nat):XH kf Y N x oD (m_+1)=XI kf Y x oD (XH kf Y N x oD m_):=rfl
def njH (Y:na→Bool→α) (l0:Int→Rows→Bytes→Int→Rows→α) (Z:Rows) (m:na) (O at_:Int) (s:Bytes) (write:Bool):α:=
 let z0:Rows×Bool:=sC Z m O at_ (len s) write
 bif Ed true (sJ m) then
  bif !z0.2 then Y (n7 m) false
  else l0 (len z0.1) z0.1 s 0 ((n7 m).nP)
 else kf
def ntq (Y:na→Bool→α) (N:Nat) (Z:Rows) (m:na) (O at_:Int) (s:Bytes) (write:Bool):α:=njH kf Y (fun x oD=>XH kf Y N x oD N) Z m O at_ s write
def nxj (Z:Rows) (m:na) (O at_:Int) (s:Bytes) (write:Bool):Bool:=sm m.nP
def put (Z:Rows) (m:na) (O at_:Int) (s:Bytes) (write:Bool):na×Bool:=
 bif !(sC Z m O at_ (len s) write).2 then (m,false) else (⟨nwf (sC Z m O at_ (len s) write).1 s m.nP⟩,true)
theorem nym (Y:na→Bool→α) (Z:Rows) (m:na) (O at_:Int) (s:Bytes) (write:Bool) (U5:kd na.ct m.enc) (vN:G5 .str (.str s)) (aP:nxj Z m O at_ s write=true):∃N,ntq kf Y N Z m O at_ s write=Y (put Z m O at_ s write).1 (put Z m O at_ s write).2:=by
 have hp0:G5 (.sl [.str]) (.sl m.nP):=na.xz U5
 have Je:sJ m=true:=aP
 have My:=vI vN
 refine⟨(sC Z m O at_ (len s) write).1.length+1, ?_⟩
 unfold ntq njH put
 rw[show n7 m=m from rfl]
 simp only[Je,ng,aj]
 cases hr:(sC Z m O at_ (len s) write).2
 ·rfl
 ·obtain⟨g1,g2,g3⟩:=Ym hp0 hr
  simp only[Bool.not_true,aQ]
  generalize (sC Z m O at_ (len s) write).1=R at g3 ⊢
  have key:∀(q n i:Nat) (s:Bytes) (l:Rows),i+q=R.length→q<n→U0 (fun _=>True) (R.drop i) s.length→pgs l→l.length≤64→R.length≤5000→
    XH kf Y (R.length+1) (len R) R n s (i:Int) l=Y (⟨nwf (R.drop i) s l⟩:na) true:=by
   intro q
   induction q with
   | zero=>
    intro n i s l h1 h2 h3 h4 h5 h6
    obtain⟨n,rfl⟩:∃q,n=q+1:=⟨n - 1,by omega⟩
    rw[nia,List.drop_eq_nil_of_le (by omega)]
    have hf:decide ((i:Int)<len R)=false:=Lt (by simp only[len];omega)
    simp only[XI,hf,aQ,nwf]
   | succ q ih=>
    intro n i s l h1 h2 h3 h4 h5 h6
    obtain⟨n,rfl⟩:∃q,n=q+1:=⟨n - 1,by omega⟩
    have hi:i<R.length:=by omega
    have e0:R[i]=nth R i:=by simp [nth,hi]
    rw[List.drop_eq_getElem_cons hi,e0] at h3 ⊢
    obtain⟨p,k,e1,k1,k2,k3,_,k4⟩:=h3
    rw[nia]
    have w1:nL ((i:Int)+1)=((i+1:Nat):Int):=by rw[nF (by omega) (by omega)];omega
    have x1:okH s (k:Int)=true:=by simp only[okH,aw,eX];omega
    have x2:okL s (k:Int)=true:=by simp only[okL,aw,eX];omega
    have x3:Pr s (k:Int)=s.take k:=by simp [Pr]
    have x4:zi s (k:Int)=s.drop k:=by simp [zi]
    have x5:∀a b,sO (⟨l⟩:na) a b=true:=fun a b=>by
     unfold sO sm
     exact Lu (by show l.length≤16777216;omega)
    have r1:rI [DC.int (p:Int),DC.int (k:Int)] 0=(p:Int):=rfl
    have r2:rI [DC.int (p:Int),DC.int (k:Int)] 1=(k:Int):=rfl
    have wp:=nbP (a:=(p:Int)) (s:=s.take k) h4 h5
    have this:=ih n (i+1) (s.drop k) (qE (⟨l⟩:na) (p:Int) (s.take k)).1.nP (by omega) (by omega) (by rw[List.length_drop];exact k4) wp.1 (by rw[wp.2];exact h5) h6
    simp only[XI,oU hi,nR hi,sq hi,J6,e1,r1,r2,x1,x2,x3,x4,x5,w1,ng,nr,aj,nwf]
    exact this
  exact key R.length (R.length+1) 0 s m.nP (by omega) (by omega) (by have h:=g3.1;rw[show (len s).toNat=s.length by simp [len]] at h;exact h) g1 g2 g3.2
def nbY (Y:na→Bool→α) (Z:Rows) (m:na) (O at_:Int) (s:Bytes):α:=
 let z0:na×Bool:=put Z m O at_ s true
 bif Ed true (nxj Z m O at_ s true) then
  Y z0.1 z0.2
 else kf
def sM (Z:Rows) (m:na) (O at_:Int) (s:Bytes):Bool:=sm m.nP
def rk (Z:Rows) (m:na) (O at_:Int) (s:Bytes):na×Bool:=put Z m O at_ s true
theorem np2 (Y:na→Bool→α) (Z:Rows) (m:na) (O at_:Int) (s:Bytes) (aP:sM Z m O at_ s=true):nbY kf Y Z m O at_ s=Y (rk Z m O at_ s).1 (rk Z m O at_ s).2:=by
 have h:nxj Z m O at_ s true=true:=aP
 unfold nbY rk
 simp only[h,ng,aj]
theorem npR {l:Rows} (hp:pgs l) (hl:l.length≤64) {a n:Int} :within (⟨l⟩:na) a n=true↔0≤n∧0≤a∧a+n≤128*l.length:=by
 constructor
 ·intro h
  obtain⟨_,_,h1,h2,h3⟩:=W6 (nva hp hl) h
  exact⟨h1,h2,h3⟩
 ·rintro ⟨h1,h2,h3⟩
  obtain⟨n,rfl⟩:=Int.eq_ofNat_of_zero_le h1
  obtain⟨a,rfl⟩:=Int.eq_ofNat_of_zero_le h2
  exact nzm hp hl (by omega)
theorem nyc {l:Rows} (hp:pgs l) (hl:l.length≤64) {p o k:Int} (h0:0≤p) (o0:0≤o) (k1:1≤k) (hk:o+k≤128):within (⟨l⟩:na) (p*128+o) k=within (⟨l⟩:na) (p*128) 128:=by
 rw[Bool.eq_iff_iff,npR hp hl,npR hp hl]
 omega
def nyq (O oP:Int) (write:Bool) (r:List DC):Bool:=bif (rI r 0)==O then bif (rI r 1)==oP then bif rB r 3 then true else !write else false else false
def nyR (Z:Rows) (O oP:Int) (write:Bool):Int:=findIdx (fun _ r=>nyq O oP write r) Z 0
def O0 (Y:Int→α) (Z:Rows) (O oP:Int) (write:Bool) (ov:Int→α) (k:Int):α:=
 let z0:Bool:=(rI (nth Z (Int.toNat k)) 0)==O
 let z1:Bool:=(rI (nth Z (Int.toNat k)) 1)==oP
 let z2:Bool:=Ed (Ed true (idx k Z)) (idx k Z)
 let z3:Bool:=Ed z2 (idx k Z)
 bif decide (k<len Z) then
  bif L0 z0 (L0 z1 (L0 (rB (nth Z (Int.toNat k)) 3) z3 z3) z2) (Ed true (idx k Z)) then
   bif bif z0 then bif z1 then bif rB (nth Z (Int.toNat k)) 3 then true else !write else false else false then
    bif Ed true (idx k Z) then
     Y (rI (nth Z (Int.toNat k)) 2)
    else kf
   else ov (nL (k+1))
  else kf
 else Y (-1)
def OZ (Y:Int→α) (N:Nat) (Z:Rows) (O oP:Int) (write:Bool) (m_:Nat):Int→α:=
 Nat.rec (motive:=fun _=>Int→α) (fun _=>kf) (fun _ ov=>O0 kf Y Z O oP write ov) m_
theorem YB (Y:Int→α) (N:Nat) (Z:Rows) (O oP:Int) (write:Bool) (m_:Nat):OZ kf Y N Z O oP write (m_+1)=O0 kf Y Z O oP write (OZ kf Y N Z O oP write m_):=rfl
def W1 (kf:α) (Y l0:Int→α) (Z:Rows) (O oP:Int) (write:Bool):α:=
 l0 0
def ngF (Y:Int→α) (N:Nat) (Z:Rows) (O oP:Int) (write:Bool):α:=W1 kf Y (OZ kf Y N Z O oP write N) Z O oP write
def w7 (Z:Rows) (O oP:Int) (write:Bool):Int:=bif decide (nyR Z O oP write<0) then -1 else rI (nth Z (Int.toNat (nyR Z O oP write))) 2
theorem nuV (Y:Int→α) (Z:Rows) (O oP:Int) (write:Bool) (qh:G5 (.sl [.i,.i,.i,.bool]) (.sl Z)):∃N,ngF kf Y N Z O oP write=Y (w7 Z O oP write):=by
 obtain⟨hl,_⟩:=oG qh
 refine⟨Z.length+1, ?_⟩
 unfold ngF W1 w7
 refine (rQ Z (OZ kf Y (Z.length+1) Z O oP write) (fun i r c=>bif nyq O oP write r then Y (bif decide ((i:Int)<0) then -1 else rI (nth Z (Int.toNat (i:Int))) 2) else c) (Y (-1)) ?_ ?_).trans ?_
 ·intro n i h
  rw[YB]
  have h0:decide ((i:Int)<0)=false:=Lt (by omega)
  simp only[O0,oU h,nR h,ou h hl,J6,ng,nr,Pm,aj,h0,aQ]
  rfl
 ·intro n
  rw[YB]
  simp only[O0,nQ,aQ]
 ·exact nbz (fun _ r=>nyq O oP write r) (fun x=>Y (bif decide (x<0) then -1 else rI (nth Z (Int.toNat x)) 2)) Z 0
theorem nsF {l:Rows} (h:pf l=true) {i j:Nat} (hi:i<l.length) (hj:j<l.length) (h0:rI (nth l i) 0=rI (nth l j) 0) (h1:rI (nth l i) 1=rI (nth l j) 1):i=j:=by
 have key:∀i j:Nat,i<l.length→j<i→rI (nth l j) 0=rI (nth l i) 0→rI (nth l j) 1=rI (nth l i) 1→False:=by
  intro i j hi hj h0 h1
  unfold pf at h
  by_cases h9:96<len l
  ·simp [h9] at h
  simp only[Lt h9,aQ] at h
  cases ha:q_ (fun i r=>bif x9 r then true else zh (fun j=>bif (rI (nth l j) 0)==(rI r 0) then (rI (nth l j) 1)==(rI r 1) else false) i 0) l 0
  ·have h2:=nwy ha i hi
   rw[Nat.zero_add] at h2
   cases hb:x9 (nth l i)
   ·rw[hb,aQ] at h2
    have h3:=nyM h2 j (Nat.zero_le _) (by omega)
    rw[h0,h1] at h3
    simp at h3
   ·rw[hb] at h2
    cases h2
  ·rw[ha] at h
   cases h
 rcases Nat.lt_trichotomy i j with h2 | h2 | h2
 ·exact (key j i hj h2 h0 h1).elim
 ·exact h2
 ·exact (key i j hi h2 h0.symm h1.symm).elim
theorem nze {l:Rows} (hM:pf l=true) {d a:Int} {w:Bool} (ha:0≤a):place l d a w=bif decide (w7 l d (nL (Int.tdiv a 128)) w<0) then -1 else nL (nL (w7 l d (nL (Int.tdiv a 128)) w*128)+Int.tmod a 128):=by
 unfold place
 rw[Lt (show ¬a<0 by omega),aQ]
 have hT:∀r,nyq d (nL (Int.tdiv a 128)) w r=true↔(rI r 0=d∧rI r 1=nL (Int.tdiv a 128))∧(rB r 3=true∨w=false):=by
  intro r
  unfold nyq
  by_cases h0:rI r 0=d
  ·by_cases h1:rI r 1=nL (Int.tdiv a 128)
   ·cases rB r 3<;>cases w<;>simp [h0,h1]
   ·simp [h0,h1]
  ·simp [h0]
 have ip:∀i,0≤rI (nth l i) 2∨¬i<l.length:=by
  intro i
  by_cases hi:i<l.length
  ·have hb:=(UZ hM).2 (nth l i) (sr hi)
   unfold x9 at hb
   cases h4:nf (rI (nth l i) 2) 0 63
   ·rw[h4] at hb
    revert hb
    cases nf (rI (nth l i) 0) 0 7<;>cases nf (rI (nth l i) 1) 0 1023<;>simp
   ·exact .inl (nZ.1 h4).1
  ·exact .inr hi
 have hq:=xD (fun _ r=>nyq d (nL (Int.tdiv a 128)) w r) l 0
 have hp:=xD (fun _ r=>bif (rI r 0)==d then (rI r 1)==(nL (Int.tdiv a 128)) else false) l 0
 have e1:nuk l d a=findIdx (fun _ r=>bif (rI r 0)==d then (rI r 1)==(nL (Int.tdiv a 128)) else false) l 0:=rfl
 unfold w7 nyR
 rw[e1]
 rcases hp with ⟨p1,p2⟩ | ⟨i,i1,i2,i3⟩
 ·rw[p1]
  rcases hq with ⟨q1,_⟩ | ⟨j,j1,_,j3⟩
  ·rw[q1];rfl
  ·have h2:=p2 j j1
   have h3:=((hT _).1 j3).1
   simp [h3.1,h3.2] at h2
 ·rw[i2]
  have hi3:rI (nth l i) 0=d∧rI (nth l i) 1=nL (Int.tdiv a 128):=by simpa [nzI] using i3
  simp only[Nat.zero_add,J6,Lt (show ¬((i:Int)<0) by omega),aQ]
  rcases hq with ⟨q1,q2⟩ | ⟨j,j1,j2,j3⟩
  ·rw[q1]
   have h2:=q2 i i1
   have h3:¬(rB (nth l i) 3=true∨w=false):=fun h=>by
    rw[(hT _).2 ⟨hi3,h⟩] at h2
    cases h2
   rw[not_or] at h3
   cases w
   ·exact absurd rfl h3.2
   ·simp only[h3.1,aj,Bool.not_eq_true _ ▸ (by simpa using h3.1:rB (nth l i) 3=false),Bool.not_false]
    rfl
  ·have h3:=(hT _).1 j3
   have hij:i=j:=nsF hM i1 j1 (hi3.1.trans h3.1.1.symm) (hi3.2.trans h3.1.2.symm)
   subst hij
   rw[j2]
   simp only[Nat.zero_add,J6,Lt (show ¬((i:Int)<0) by omega),aQ]
   have hn:=(ip i).resolve_right (by omega)
   rw[Lt (show ¬rI (nth l i) 2<0 by omega),aQ]
   have hc:(bif w then !(rB (nth l i) 3) else false)=false:=by
    rcases h3.2 with h4 | h4
    ·rw[h4];cases w<;>rfl
    ·rw[h4];rfl
   rw[hc,aQ]
theorem nAm {l:Rows} (hM:pf l=true) (d v:Int) (w:Bool):w7 l d v w= -1∨(0≤w7 l d v w∧w7 l d v w≤63):=by
 unfold w7 nyR
 rcases xD (fun _ r=>nyq d v w r) l 0 with ⟨q1,_⟩ | ⟨j,j1,j2,j3⟩
 ·rw[q1];exact .inl rfl
 ·rw[j2]
  simp only[Nat.zero_add,J6,Lt (show ¬((j:Int)<0) by omega),aQ]
  have hb:=(UZ hM).2 (nth l j) (sr j1)
  unfold x9 at hb
  cases h4:nf (rI (nth l j) 2) 0 63
  ·rw[h4] at hb
   revert hb
   cases nf (rI (nth l j) 0) 0 7<;>cases nf (rI (nth l j) 1) 0 1023<;>simp
  ·exact .inr (nZ.1 h4)
def pF0 (r:List DC):List DC:=[.int (rI r 0)]
def pF1 (r:List DC):List DC:=[.int (rI r 1)]
theorem nxf (f:List DC→List DC) {l:Rows} {i:Nat} (h:i<l.length):nth (l.map f) i=f (nth l i):=by
 simp [nth,List.getD_eq_getElem?_getD,h]
def xy (Y:Rows→Rows→Bool→α) (Z:Rows) (O:Int) (write:Bool) (ta:Rows) (ov:Int→Int→Rows→Rows→α) (sj n_1:Int) (starts pX:Rows):α:=
 let z0:Int:=bif decide (0≤sj) then w7 Z O (nL (Int.tdiv sj 128)) write else (-1)
 let z1:Int:=wD n_1 (nL (128 - (Int.tmod sj 128)))
 bif decide (0<n_1) then
  bif bif decide (z0<0) then true else !(within (⟨ta⟩:na) (nL (z0*128)) 128) then Y [] [] false
  else bif Ed true (qx 8 starts ([[.int (nL ((nL (z0*128))+(Int.tmod sj 128)))]])) then
    bif Ed true (qx 8 pX ([[.int z1]])) then
     ov (nL (sj+z1)) (nL (n_1 - z1)) (starts++([[.int (nL ((nL (z0*128))+(Int.tmod sj 128)))]])) (pX++([[.int z1]]))
    else kf
   else kf
 else Y starts pX true
def NG (Y:Rows→Rows→Bool→α) (N:Nat) (Z:Rows) (O:Int) (write:Bool) (ta:Rows) (m_:Nat):Int→Int→Rows→Rows→α:=
 Nat.rec (motive:=fun _=>Int→Int→Rows→Rows→α) (fun _ _ _ _=>kf) (fun _ ov=>xy kf Y Z O write ta ov) m_
theorem nkH (Y:Rows→Rows→Bool→α) (N:Nat) (Z:Rows) (O:Int) (write:Bool) (ta:Rows) (m_:Nat):NG kf Y N Z O write ta (m_+1)=xy kf Y Z O write ta (NG kf Y N Z O write ta m_):=rfl
def TZ (kf:α) (Y:Rows→Rows→Bool→α) (l0:Rows→Int→Int→Rows→Rows→α) (Z:Rows) (m:na) (O at_ n:Int) (write:Bool):α:=
 bif bif !(pf Z) then true else bif !(qo m) then true else !(nf n 0 4096) then Y [] [] false
 else l0 m.nP at_ n [] []
def ned (Y:Rows→Rows→Bool→α) (N:Nat) (Z:Rows) (m:na) (O at_ n:Int) (write:Bool):α:=TZ kf Y (fun ta=>NG kf Y N Z O write ta N) Z m O at_ n write
def zx (Z:Rows) (m:na) (O at_ n:Int) (write:Bool):Rows×Rows×Bool:=
 ((sC Z m O at_ n write).1.map pF0,(sC Z m O at_ n write).1.map pF1,(sC Z m O at_ n write).2)
theorem nsm (Y:Rows→Rows→Bool→α) (Z:Rows) (m:na) (O at_ n:Int) (write:Bool) (U5:kd na.ct m.enc) (PM:G5 .i (.int at_)):∃N,ned kf Y N Z m O at_ n write=Y (zx Z m O at_ n write).1 (zx Z m O at_ n write).2.1 (zx Z m O at_ n write).2.2:=by
 have hp0:G5 (.sl [.str]) (.sl m.nP):=na.xz U5
 have FX:=wR PM
 refine⟨n.toNat+2, ?_⟩
 unfold ned TZ zx sC
 refine oA (K:=fun r:Rows×Bool=>Y (r.1.map pF0) (r.1.map pF1) r.2) (fun _=>rfl) (fun hg=> ?_)
 have hM:pf Z=true:=by
  cases hM:pf Z
  ·rw[hM] at hg;cases hg
  ·rfl
 have hm:qo m=true:=by
  cases hm:qo m
  ·rw[hM,hm] at hg;cases hg
  ·rfl
 have hb:0≤n∧n≤4096:=by
  cases hc:nf n 0 4096
  ·rw[hM,hm,hc] at hg;cases hg
  ·exact nZ.1 hc
 obtain⟨p1,p2⟩:=nxi hp0 hm
 have key:∀(q N':Nat) (a n:Int) (o:Rows),n<q→q≤N'→0≤n→n≤4096→a≤9223372036854775807→o.length+n.toNat≤5000→∀M,NG kf Y M Z O write m.nP N' a n (o.map pF0) (o.map pF1)=
   (fun r:Rows×Bool=>Y (r.1.map pF0) (r.1.map pF1) r.2) (bif bif decide (a<0) then decide (0<n) else false then ([],false) else nrL Z O write m.nP q a n o):=by
  intro q
  induction q with
  | zero=>intro N' a n o h1 h2 h3;omega
  | succ q ih=>
   intro N' a n o h1 h2 h3 h4 h7 h6 M
   obtain⟨N',rfl⟩:∃p,N'=p+1:=⟨N' - 1,by omega⟩
   rw[nkH]
   by_cases hn:0<n
   ·by_cases ha:a<0
    ·simp only[xy,Lu hn,Lu ha,Lt (show ¬0≤a by omega),aj,aQ,show decide ((-1:Int)<0)=true from rfl]
     rfl
    ·obtain⟨r1,r2,r3,r4⟩:=nuj (show 0≤a by omega) hn h4
     have tm:=nmY (x:=a) (m:=128) (by omega) (by omega)
     have hr:∀(l:Rows) (x:List DC),l.length≤5000→qx 8 l [x]=true:=fun l x hl=>Oc (by simp only[dx,List.length_nil];omega) (by omega)
     have hlp:=nze (d:=O) (w:=write) hM (show 0≤a by omega)
     have fI:(bif decide (w7 Z O (nL (Int.tdiv a 128)) write<0) then true else !(within m (nL (w7 Z O (nL (Int.tdiv a 128)) write*128)) 128))=
       (bif decide (place Z O a write<0) then true else !(within m (place Z O a write) (wD n (nL (128 - Int.tmod a 128))))):=by
      rw[hlp]
      rcases nAm hM O (nL (Int.tdiv a 128)) write with h8 | ⟨h8,h9⟩
      ·rw[h8];rfl
      ·generalize w7 Z O (nL (Int.tdiv a 128)) write=P at h8 h9 ⊢
       rw[Lt (show ¬P<0 by omega),aQ,aQ,nF (n:=P*128) (by omega) (by omega),nF (n:=P*128+Int.tmod a 128) (by omega) (by omega),
        Lt (show ¬P*128+Int.tmod a 128<0 by omega),aQ]
       rw[show within m (P*128+Int.tmod a 128) (wD n (nL (128 - Int.tmod a 128)))=within m (P*128) 128 from nyc p1 p2 h8 tm.1 r1 (by omega)]
     have hlen:∀f:List DC→List DC,(o.map f).length≤5000:=fun f=>by rw[List.length_map];omega
     unfold nrL
     simp only[xy,Lu hn,Lt ha,Lu (show 0≤a by omega),aj,aQ,hr _ _ (hlen _),ng]
     have hM1:(⟨m.nP⟩:na)=m:=rfl
     rw[hM1,fI]
     refine oA (K:=fun r:Rows×Bool=>Y (r.1.map pF0) (r.1.map pF1) r.2) (fun _=>rfl) (fun hc=> ?_)
     have KY:place Z O a write=nL (nL (w7 Z O (nL (Int.tdiv a 128)) write*128)+Int.tmod a 128):=by
      rw[hlp]
      cases hd:decide (w7 Z O (nL (Int.tdiv a 128)) write<0)
      ·rfl
      ·rw[hlp,hd] at hc
       cases hc
     rw[←KY,r4]
     have e0:o.map pF0++[[DC.int (place Z O a write)]]=(o++[[DC.int (place Z O a write),DC.int (wD n (nL (128 - Int.tmod a 128)))]]).map pF0:=by rw[List.map_append];rfl
     have e1:o.map pF1++[[DC.int (wD n (nL (128 - Int.tmod a 128)))]]=(o++[[DC.int (place Z O a write),DC.int (wD n (nL (128 - Int.tmod a 128)))]]).map pF1:=by rw[List.map_append];rfl
     rw[e0,e1]
     exact ih N' _ _ _ (by omega) (by omega) (by omega) (by omega) (nAa _) (by simp only[fv,dx,List.length_nil];omega) M
   ·have hz:(bif decide (a<0) then decide (0<n) else false)=false:=by rw[Lt hn];cases decide (a<0)<;>rfl
    rw[hz]
    unfold nrL
    simp only[xy,Lt hn,aQ]
 refine (key (n.toNat+1) (n.toNat+2) at_ n [] (by omega) (by omega) hb.1 hb.2 FX.2 (by simp only[List.length_nil];omega) _).trans ?_
 congr 1
 by_cases h0:n=0
 ·subst h0
  cases decide (at_<0)<;>rfl
 ·rw[show (n==0)=false by simpa using h0,aQ,Lu (show 0<n by omega)]
  cases decide (at_<0)<;>rfl
def Pn (l:Rows) (a n:Nat):Bytes:=((rS (nth l (a / 128)) 0).drop (a % 128)).take (min n (128 - a % 128))
def noQ:Nat→Nat→Nat→Rows→Bytes
 | 0,_,_,_=>[]
 | m+1,a,n,l=>bif decide (0<n) then Pn l a n++noQ m (a+min n (128 - a % 128)) (n - min n (128 - a % 128)) l else []
def ru (m:na) (at_ n:Int):Bytes×Bool:=bif !(within m at_ n) then ([],false) else (noQ n.toNat at_.toNat n.toNat m.nP,true)
theorem nkl {l:Rows} (hp:pgs l) {a n:Nat} (h:a / 128<l.length):(Pn l a n).length=min n (128 - a % 128):=by
 obtain⟨p,e1,e2⟩:=hp (a / 128) h
 unfold Pn
 rw[e1,nf2,List.length_take,List.length_drop,e2]
 omega
theorem nx1:∀(q a n:Nat) (l:Rows),n≤q→pgs l→a+n≤128*l.length→(noQ q a n l).length=n
 | 0,a,n,l,h1,_,_=>by simp only[noQ,List.length_nil];omega
 | q+1,a,n,l,h1,hp,h2=>by
  unfold noQ
  by_cases hn:0<n
  ·rw[Lu hn,aj,fv,nkl hp (by omega),nx1 q _ _ l (by omega) hp (by omega)]
   omega
  ·rw[Lt hn,aQ]
   simp only[List.length_nil];omega
theorem PI {m:na} {a n:Int} (hw:G5 (.sl [.str]) (.sl m.nP)):(ru m a n).1.length≤8192∧(ru m a n).1.length≤n.toNat:=by
 unfold ru
 cases h:within m a n
 ·exact⟨Nat.zero_le _,Nat.zero_le _⟩
 ·obtain⟨p1,p2,p3,p4,p5⟩:=W6 hw h
  simp only[Bool.not_true,aQ]
  rw[nx1 _ _ _ _ (Nat.le_refl _) p1 (by omega)]
  omega
def vm (Y:Bytes→Bool→α) (n:Int) (ta:Rows) (ov:Int→Rows→α) (sj:Int) (oc:Rows):α:=
 let z0:Int:=wD 128 (nL ((nL ((Int.tmod sj 128)+n)) - (len oc)))
 let z1:Bytes:=npQ (rS (nth ta (Int.toNat (nL (Int.tdiv sj 128)))) 0) (Int.tmod sj 128) z0
 bif decide (len oc<n) then
  bif Ed true (idx (nL (Int.tdiv sj 128)) ta) then
   bif Ed true (nxg (rS (nth ta (Int.toNat (nL (Int.tdiv sj 128)))) 0) (Int.tmod sj 128) z0) then
    bif Ed true (decide ((List.length oc+List.length z1)*1≤140737488355328) && decide (List.length oc+List.length z1≤9223372036854775807)) then
     ov (nL (sj+(len z1))) (oc++(ofStr z1))
    else kf
   else kf
  else kf
 else Y (toStr oc) true
def xM (Y:Bytes→Bool→α) (N:Nat) (n:Int) (ta:Rows) (m_:Nat):Int→Rows→α:=
 Nat.rec (motive:=fun _=>Int→Rows→α) (fun _ _=>kf) (fun _ ov=>vm kf Y n ta ov) m_
theorem SS (Y:Bytes→Bool→α) (N:Nat) (n:Int) (ta:Rows) (m_:Nat):xM kf Y N n ta (m_+1)=vm kf Y n ta (xM kf Y N n ta m_):=rfl
def Qh (Y:Bytes→Bool→α) (l0:Rows→Int→Rows→α) (m:na) (at_ n:Int):α:=
 bif !(within m at_ n) then Y [] false
 else bif Ed true (xq 1 0 n) then
   l0 m.nP at_ (List.replicate 0 ([.int 0]:List DC))
  else kf
def Xx (Y:Bytes→Bool→α) (N:Nat) (m:na) (at_ n:Int):α:=Qh kf Y (fun ta=>xM kf Y N n ta N) m at_ n
theorem nk6 (Y:Bytes→Bool→α) (m:na) (at_ n:Int) (U5:kd na.ct m.enc):∃N,Xx kf Y N m at_ n=Y (ru m at_ n).1 (ru m at_ n).2:=by
 have hp0:G5 (.sl [.str]) (.sl m.nP):=na.xz U5
 refine⟨n.toNat+1, ?_⟩
 unfold Xx Qh ru
 cases hw:within m at_ n
 ·rfl
 ·obtain⟨p1,p2,p3,p4,p5⟩:=W6 hp0 hw
  obtain⟨a,rfl⟩:=Int.eq_ofNat_of_zero_le p4
  obtain⟨n,rfl⟩:=Int.eq_ofNat_of_zero_le p3
  have hmk:xq 1 0 (n:Int)=true:=by simp only[xq,aw,eX,J6];omega
  simp only[Bool.not_true,aQ,hmk,ng,aj,J6]
  have key:∀(q N' a r:Nat) (o:Bytes),r≤q→q<N'→o.length+r=n→a+r≤128*m.nP.length→∀M,xM kf Y M (n:Int) m.nP N' (a:Int) (ofStr o)=Y (o++noQ q a r m.nP) true:=by
   intro q
   induction q with
   | zero=>
    intro N' a r o h1 h2 h3 h4 M
    obtain⟨N',rfl⟩:∃q,N'=q+1:=⟨N' - 1,by omega⟩
    rw[SS]
    have hd:decide (len (ofStr o)<(n:Int))=false:=Lt (by simp only[len,t_];omega)
    simp only[vm,hd,aQ,noQ,List.append_nil,zG]
   | succ q ih=>
    intro N' a r o h1 h2 h3 h4 M
    obtain⟨N',rfl⟩:∃q,N'=q+1:=⟨N' - 1,by omega⟩
    rw[SS]
    by_cases hr:0<r
    ·have hd:decide (len (ofStr o)<(n:Int))=true:=Lu (by simp only[len,t_];omega)
     have hpg:a / 128<m.nP.length:=by omega
     obtain⟨p,e1,e2⟩:=p1 (a / 128) hpg
     have w1:nL (((a / 128:Nat):Int))=((a / 128:Nat):Int):=nF (by omega) (by omega)
     have c1:wD 128 (nL (nL (((a % 128:Nat):Int)+(n:Int)) - len (ofStr o)))=((a % 128+min r (128 - a % 128):Nat):Int):=by
      rw[nF (n:=((a % 128:Nat):Int)+(n:Int)) (by omega) (by omega)]
      simp only[len,t_]
      rw[nF (by omega) (by omega)]
      simp only[wD]
      split<;>omega
     have s1:npQ p ((a % 128:Nat):Int) ((a % 128+min r (128 - a % 128):Nat):Int)=Pn m.nP a r:=by
      unfold npQ Pn
      rw[e1,nf2,J6,J6,List.drop_take]
      congr 1
      omega
     have g1:nxg p ((a % 128:Nat):Int) ((a % 128+min r (128 - a % 128):Nat):Int)=true:=by simp only[nxg,aw,eX];omega
     have hl:=nkl p1 (n:=r) hpg
     have g2:(decide (((ofStr o).length+(Pn m.nP a r).length)*1≤140737488355328) && decide ((ofStr o).length+(Pn m.nP a r).length≤9223372036854775807))=true:=by simp only[t_,aw,eX];omega
     have w2:nL ((a:Int)+len (Pn m.nP a r))=((a+min r (128 - a % 128):Nat):Int):=by simp only[len,hl];rw[nF (by omega) (by omega)];omega
     have eo:ofStr o++ofStr (Pn m.nP a r)=ofStr (o++Pn m.nP a r):=by simp [ofStr]
     have this:=ih N' (a+min r (128 - a % 128)) (r - min r (128 - a % 128)) (o++Pn m.nP a r) (by omega) (by omega) (by rw[fv,hl];omega) (by omega) M
     unfold noQ
     rw[Lu hr,aj,←List.append_assoc]
     simp only[vm,hd,nmW,nmX,w1,nR hpg,J6,e1,nf2,c1,s1,g1,g2,w2,eo,ng,aj]
     exact this
    ·have hd:decide (len (ofStr o)<(n:Int))=false:=Lt (by simp only[len,t_];omega)
     unfold noQ
     simp only[vm,hd,Lt hr,aQ,List.append_nil,zG]
  exact key n (n+1) a n [] (Nat.le_refl _) (by omega) (by simp) (by omega) _
def vB (Y:Bytes→Bool→α) (ta:Rows) (ov:Int→Int→Bytes→α) (sj n_1:Int) (oc:Bytes):α:=
 let z0:Int:=wD n_1 (nL (128 - (Int.tmod sj 128)))
 let z1:Int:=nL ((Int.tmod sj 128)+z0)
 let z2:Bytes:=npQ (rS (nth ta (Int.toNat (nL (Int.tdiv sj 128)))) 0) (Int.tmod sj 128) z1
 bif decide (0<n_1) then
  bif Ed (Ed (Ed true (idx (nL (Int.tdiv sj 128)) ta)) (nxg (rS (nth ta (Int.toNat (nL (Int.tdiv sj 128)))) 0) (Int.tmod sj 128) z1)) (oz oc z2) then
   ov (nL (sj+z0)) (nL (n_1 - z0)) (oc++z2)
  else kf
 else Y oc true
def ye (Y:Bytes→Bool→α) (N:Nat) (ta:Rows) (m_:Nat):Int→Int→Bytes→α:=
 Nat.rec (motive:=fun _=>Int→Int→Bytes→α) (fun _ _ _=>kf) (fun _ ov=>vB kf Y ta ov) m_
theorem S9 (Y:Bytes→Bool→α) (N:Nat) (ta:Rows) (m_:Nat):ye kf Y N ta (m_+1)=vB kf Y ta (ye kf Y N ta m_):=rfl
def QP (kf:α) (Y:Bytes→Bool→α) (l0:Rows→Int→Int→Bytes→α) (m:na) (at_ n:Int):α:=
 bif !(within m at_ n) then Y [] false
 else l0 m.nP at_ n []
def Yt (Y:Bytes→Bool→α) (N:Nat) (m:na) (at_ n:Int):α:=QP kf Y (fun ta=>ye kf Y N ta N) m at_ n
theorem nmJ (Y:Bytes→Bool→α) (m:na) (at_ n:Int) (U5:kd na.ct m.enc):∃N,Yt kf Y N m at_ n=Y (ru m at_ n).1 (ru m at_ n).2:=by
 have hp0:G5 (.sl [.str]) (.sl m.nP):=na.xz U5
 refine⟨n.toNat+1, ?_⟩
 unfold Yt QP ru
 cases hw:within m at_ n
 ·rfl
 ·obtain⟨p1,p2,p3,p4,p5⟩:=W6 hp0 hw
  obtain⟨a,rfl⟩:=Int.eq_ofNat_of_zero_le p4
  obtain⟨n,rfl⟩:=Int.eq_ofNat_of_zero_le p3
  simp only[Bool.not_true,aQ,J6]
  have key:∀(q N' a r:Nat) (o:Bytes),r≤q→q<N'→o.length+r≤8192→a+r≤128*m.nP.length→∀M,ye kf Y M m.nP N' (a:Int) (r:Int) o=Y (o++noQ q a r m.nP) true:=by
   intro q
   induction q with
   | zero=>
    intro N' a r o h1 h2 h3 h4 M
    obtain⟨N',rfl⟩:∃q,N'=q+1:=⟨N' - 1,by omega⟩
    rw[S9]
    have hd:decide (0<(r:Int))=false:=Lt (by omega)
    simp only[vB,hd,aQ,noQ,List.append_nil]
   | succ q ih=>
    intro N' a r o h1 h2 h3 h4 M
    obtain⟨N',rfl⟩:∃q,N'=q+1:=⟨N' - 1,by omega⟩
    rw[S9]
    by_cases hr:0<r
    ·have hd:decide (0<(r:Int))=true:=Lu (by omega)
     have hpg:a / 128<m.nP.length:=by omega
     obtain⟨p,e1,e2⟩:=p1 (a / 128) hpg
     have w1:nL (((a / 128:Nat):Int))=((a / 128:Nat):Int):=nF (by omega) (by omega)
     have c1:wD (r:Int) (nL (128 - ((a % 128:Nat):Int)))=((min r (128 - a % 128):Nat):Int):=by
      rw[nF (by omega) (by omega)]
      simp only[wD]
      split<;>omega
     have c2:nL (((a % 128:Nat):Int)+((min r (128 - a % 128):Nat):Int))=((a % 128+min r (128 - a % 128):Nat):Int):=by rw[nF (by omega) (by omega)];omega
     have s1:npQ p ((a % 128:Nat):Int) ((a % 128+min r (128 - a % 128):Nat):Int)=Pn m.nP a r:=by
      unfold npQ Pn
      rw[e1,nf2,J6,J6,List.drop_take]
      congr 1
      omega
     have g1:nxg p ((a % 128:Nat):Int) ((a % 128+min r (128 - a % 128):Nat):Int)=true:=by simp only[nxg,aw,eX];omega
     have hl:=nkl p1 (n:=r) hpg
     have g2:oz o (Pn m.nP a r)=true:=U2 (by omega)
     have w2:nL ((a:Int)+((min r (128 - a % 128):Nat):Int))=((a+min r (128 - a % 128):Nat):Int):=by rw[nF (by omega) (by omega)];omega
     have w3:nL ((r:Int) - ((min r (128 - a % 128):Nat):Int))=((r - min r (128 - a % 128):Nat):Int):=by rw[nF (by omega) (by omega)];omega
     have this:=ih N' (a+min r (128 - a % 128)) (r - min r (128 - a % 128)) (o++Pn m.nP a r) (by omega) (by omega) (by rw[fv,hl];omega) (by omega) M
     unfold noQ
     rw[Lu hr,aj,←List.append_assoc]
     simp only[vB,hd,nmW,nmX,w1,nR hpg,J6,e1,nf2,c1,c2,s1,g1,g2,w2,w3,ng,aj]
     exact this
    ·have hd:decide (0<(r:Int))=false:=Lt (by omega)
     unfold noQ
     simp only[vB,hd,Lt hr,aQ,List.append_nil]
  exact key n (n+1) a n [] (Nat.le_refl _) (by omega) (by simp;omega) (by omega) _
def Oo (Y:Bytes→Bool→α) (x:Int) (ta oD:Rows) (ov:Bytes→Int→α) (oc:Bytes) (oy:Int):α:=
 let z0:Bytes:=(ru (⟨ta⟩:na) (rI (nth oD (Int.toNat oy)) 0) (rI (nth oD (Int.toNat oy)) 1)).1
 bif decide (oy<x) then
  bif Ed (Ed true (idx oy oD)) (inl (Int.toNat oy) oD) then
   bif Ed true (oz oc z0) then
    ov (oc++z0) (nL (oy+1))
   else kf
  else kf
 else Y oc true
def vQ (Y:Bytes→Bool→α) (N:Nat) (x:Int) (ta oD:Rows) (m_:Nat):Bytes→Int→α:=
 Nat.rec (motive:=fun _=>Bytes→Int→α) (fun _ _=>kf) (fun _ ov=>Oo kf Y x ta oD ov) m_
theorem Xj (Y:Bytes→Bool→α) (N:Nat) (x:Int) (ta oD:Rows) (m_:Nat):vQ kf Y N x ta oD (m_+1)=Oo kf Y x ta oD (vQ kf Y N x ta oD m_):=rfl
def U9 (kf:α) (Y:Bytes→Bool→α) (l0:Int→Rows→Rows→Bytes→Int→α) (Z:Rows) (m:na) (O at_ n:Int):α:=
 let z0:Rows×Bool:=sC Z m O at_ n false
 bif !z0.2 then Y [] false
 else l0 (len z0.1) m.nP z0.1 [] 0
def neJ (Y:Bytes→Bool→α) (N:Nat) (Z:Rows) (m:na) (O at_ n:Int):α:=U9 kf Y (fun x ta oD=>vQ kf Y N x ta oD N) Z m O at_ n
def nAY (m:na) (R:Rows):Bytes:=R.foldl (fun o r=>o++(ru m (rI r 0) (rI r 1)).1) []
def yE (Z:Rows) (m:na) (O at_ n:Int):Bytes×Bool:=bif !(sC Z m O at_ n false).2 then ([],false) else (nAY m (sC Z m O at_ n false).1,true)
theorem ntu {σ:Type} (g:σ→List DC→σ):∀(l p:Rows) (s:σ),itN (fun i s=>g s (nth (p++l) i)) l.length p.length s=l.foldl g s:=UT g
theorem nsW (Y:Bytes→Bool→α) (Z:Rows) (m:na) (O at_ n:Int) (U5:kd na.ct m.enc):∃N,neJ kf Y N Z m O at_ n=Y (yE Z m O at_ n).1 (yE Z m O at_ n).2:=by
 have hp0:G5 (.sl [.str]) (.sl m.nP):=na.xz U5
 refine⟨(sC Z m O at_ n false).1.length+1, ?_⟩
 unfold neJ U9 yE
 dsimp only
 cases hr:(sC Z m O at_ n false).2
 ·rfl
 ·obtain⟨g1,g2,g3⟩:=Ym hp0 hr
  simp only[Bool.not_true,aQ]
  generalize (sC Z m O at_ n false).1=R at g3 ⊢
  have hM1:(⟨m.nP⟩:na)=m:=rfl
  refine (yt R.length (fun n i o=>vQ kf Y (R.length+1) (len R) m.nP R n o i) (fun i o=>o++(ru m (rI (nth R i) 0) (rI (nth R i) 1)).1) (fun o=>Y o true) (fun i o=>o.length≤8192*i) ?_ ?_ ?_ (R.length+1) [] (by simp) (by omega)).trans ?_
  ·intro i o hi ho
   have:=(PI (a:=rI (nth R i) 0) (n:=rI (nth R i) 1) hp0).1
   rw[fv]
   omega
  ·intro n i o hi ho
   show vQ kf Y (R.length+1) (len R) m.nP R (n+1) o (i:Int)=_
   rw[Xj]
   have hl:=(PI (a:=rI (nth R i) 0) (n:=rI (nth R i) 1) hp0).1
   have g5:oz o (ru m (rI (nth R i) 0) (rI (nth R i) 1)).1=true:=U2 (by omega)
   have w1:nL ((i:Int)+1)=(i:Int)+1:=nF (by omega) (by omega)
   simp only[Oo,oU hi,nR hi,sq hi,J6,hM1,g5,w1,ng,aj]
  ·intro n o ho
   show vQ kf Y (R.length+1) (len R) m.nP R (n+1) o (R.length:Int)=_
   rw[Xj]
   simp only[Oo,nQ,aQ]
  ·exact congrArg (fun o=>Y o true) (ntu (fun (o:Bytes) (r:List DC)=>o++(ru m (rI r 0) (rI r 1)).1) R [] [])
def OS (Y:Bytes→Bool→α) (ta starts pX:Rows) (ov:Bytes→Int→α) (oc:Bytes) (k:Int):α:=
 let z0:Bytes:=(ru (⟨ta⟩:na) (rI (nth starts (Int.toNat k)) 0) (rI (nth pX (Int.toNat k)) 0)).1
 bif decide (k<len starts) then
  bif Ed (Ed (Ed (Ed true (idx k starts)) (inl (Int.toNat k) starts)) (idx k pX)) (inl (Int.toNat k) pX) then
   bif Ed true (oz oc z0) then
    ov (oc++z0) (nL (k+1))
   else kf
  else kf
 else Y oc true
def v9 (Y:Bytes→Bool→α) (N:Nat) (ta starts pX:Rows) (m_:Nat):Bytes→Int→α:=
 Nat.rec (motive:=fun _=>Bytes→Int→α) (fun _ _=>kf) (fun _ ov=>OS kf Y ta starts pX ov) m_
theorem Yn (Y:Bytes→Bool→α) (N:Nat) (ta starts pX:Rows) (m_:Nat):v9 kf Y N ta starts pX (m_+1)=OS kf Y ta starts pX (v9 kf Y N ta starts pX m_):=rfl
def WG (kf:α) (Y:Bytes→Bool→α) (l0:Rows→Rows→Rows→Bytes→Int→α) (Z:Rows) (m:na) (O at_ n:Int):α:=
 let z0:Rows×Rows×Bool:=zx Z m O at_ n false
 bif !z0.2.2 then Y [] false
 else l0 m.nP z0.1 z0.2.1 [] 0
def nf9 (Y:Bytes→Bool→α) (N:Nat) (Z:Rows) (m:na) (O at_ n:Int):α:=WG kf Y (fun ta starts pX=>v9 kf Y N ta starts pX N) Z m O at_ n
theorem nut (Y:Bytes→Bool→α) (Z:Rows) (m:na) (O at_ n:Int) (U5:kd na.ct m.enc):∃N,nf9 kf Y N Z m O at_ n=Y (yE Z m O at_ n).1 (yE Z m O at_ n).2:=by
 have hp0:G5 (.sl [.str]) (.sl m.nP):=na.xz U5
 refine⟨(sC Z m O at_ n false).1.length+1, ?_⟩
 unfold nf9 WG yE zx
 dsimp only
 cases hr:(sC Z m O at_ n false).2
 ·rfl
 ·obtain⟨g1,g2,g3⟩:=Ym hp0 hr
  simp only[Bool.not_true,aQ]
  generalize (sC Z m O at_ n false).1=R at g3 ⊢
  have hM1:(⟨m.nP⟩:na)=m:=rfl
  refine (yt R.length (fun n i o=>v9 kf Y (R.length+1) m.nP (R.map pF0) (R.map pF1) n o i) (fun i o=>o++(ru m (rI (nth R i) 0) (rI (nth R i) 1)).1) (fun o=>Y o true) (fun i o=>o.length≤8192*i) ?_ ?_ ?_ (R.length+1) [] (by simp) (by omega)).trans ?_
  ·intro i o hi ho
   have:=(PI (a:=rI (nth R i) 0) (n:=rI (nth R i) 1) hp0).1
   rw[fv]
   omega
  ·intro n i o hi ho
   show v9 kf Y (R.length+1) m.nP (R.map pF0) (R.map pF1) (n+1) o (i:Int)=_
   rw[Yn]
   have hl:=(PI (a:=rI (nth R i) 0) (n:=rI (nth R i) 1) hp0).1
   have g5:oz o (ru m (rI (nth R i) 0) (rI (nth R i) 1)).1=true:=U2 (by omega)
   have w1:nL ((i:Int)+1)=(i:Int)+1:=nF (by omega) (by omega)
   have Mu:∀f:List DC→List DC,i<(R.map f).length:=fun f=>by rw[List.length_map];exact hi
   simp only[OS,oU (Mu _),nR (Mu _),sq (Mu _),J6,nxf _ hi,pF0,pF1,nyF,hM1,g5,w1,ng,aj]
  ·intro n o ho
   show v9 kf Y (R.length+1) m.nP (R.map pF0) (R.map pF1) (n+1) o (R.length:Int)=_
   rw[Yn]
   have hz:decide ((R.length:Int)<len (R.map pF0))=false:=Lt (by simp only[len,List.length_map];omega)
   simp only[OS,hz,aQ]
  ·exact congrArg (fun o=>Y o true) (ntu (fun (o:Bytes) (r:List DC)=>o++(ru m (rI r 0) (rI r 1)).1) R [] [])
def ngC (Y:na→α) (m:na):α:=
 bif Ed true (qx 16 [] m.nP) then
  Y m
 else kf
theorem nuU (Y:na→α) (m:na) (aP:sJ m=true):ngC kf Y m=Y (n7 m):=by
 have HD:sJ m=true:=aP
 unfold ngC
 rw[qY (show sm m.nP=true from HD) (show 16≤8388608 by omega)]
 rfl
def uO (Y:na→Bool→α) (ov:Int→Bytes→Rows→α) (sj:Int) (uc:Bytes) (pH:Rows):α:=
 let z0:Bool:=idx (nL (Int.tdiv sj 128)) pH
 let z1:Bool:=inl (Int.toNat (nL (Int.tdiv sj 128))) pH
 let z2:Int:=wD (len uc) (nL (128 - (Int.tmod sj 128)))
 let z3:List DC:=nth pH (Int.toNat (nL (Int.tdiv sj 128)))
 let z4:Bytes:=Pr uc z2
 bif decide (0<len uc) then
  bif Ed (Ed (Ed (Ed (Ed (Ed true z0) z1) (okH uc z2)) (rK (rS z3 0) (Int.tmod sj 128) z4)) z0) z1 then
   bif Ed true (okL uc z2) then
    ov (nL (sj+z2)) (zi uc z2) (List.set pH (Int.toNat (nL (Int.tdiv sj 128))) (bX z3 0 [.str (vj (rS z3 0) (Int.tmod sj 128) z4)]))
   else kf
  else kf
 else Y (⟨pH⟩:na) true
def xb (Y:na→Bool→α) (N m_:Nat):Int→Bytes→Rows→α:=
 Nat.rec (motive:=fun _=>Int→Bytes→Rows→α) (fun _ _ _=>kf) (fun _ ov=>uO kf Y ov) m_
theorem Ra (Y:na→Bool→α) (N m_:Nat):xb kf Y N (m_+1)=uO kf Y (xb kf Y N m_):=rfl
def Pq (Y:na→Bool→α) (l0:Int→Bytes→Rows→α) (m:na) (at_:Int) (s:Bytes):α:=
 bif Ed true (sJ m) then
  bif !(within m at_ (len s)) then Y (n7 m) false
  else l0 at_ s ((n7 m).nP)
 else kf
def WW (Y:na→Bool→α) (N:Nat) (m:na) (at_:Int) (s:Bytes):α:=Pq kf Y (xb kf Y N N) m at_ s
theorem nkE (Y:na→Bool→α) (m:na) (at_:Int) (s:Bytes) (U5:kd na.ct m.enc) (aP:sO m at_ s=true):∃N,WW kf Y N m at_ s=Y (qE m at_ s).1 (qE m at_ s).2:=by
 have hp0:G5 (.sl [.str]) (.sl m.nP):=na.xz U5
 have Je:sJ m=true:=aP
 refine⟨s.length+1, ?_⟩
 unfold WW Pq qE
 rw[show n7 m=m from rfl]
 simp only[Je,ng,aj]
 cases hw:within m at_ (len s)
 ·rfl
 ·obtain⟨p1,p2,p3,p4,p5⟩:=W6 hp0 hw
  obtain⟨a,rfl⟩:=Int.eq_ofNat_of_zero_le p4
  simp only[Bool.not_true,aQ,J6]
  have key:∀(q n a:Nat) (s:Bytes) (l:Rows),s.length≤q→q<n→pgs l→l.length≤64→a+s.length≤128*l.length→∀M,xb kf Y M n (a:Int) s l=Y (⟨npq q a s l⟩:na) true:=by
   intro q
   induction q with
   | zero=>
    intro n a s l h1 h2 h3 h4 h5 M
    obtain⟨n,rfl⟩:∃q,n=q+1:=⟨n - 1,by omega⟩
    have:s=[]:=List.length_eq_zero_iff.1 (by omega)
    subst this
    rw[Ra]
    simp only[uO,show decide (0<len ([]:Bytes))=false by decide,aQ,npq]
   | succ q ih=>
    intro n a s l h1 h2 h3 h4 h5 M
    obtain⟨n,rfl⟩:∃q,n=q+1:=⟨n - 1,by omega⟩
    rw[Ra]
    by_cases hs:0<s.length
    ·have hd:decide (0<len s)=true:=Lu (by simp only[len];omega)
     have hpg:a / 128<l.length:=by omega
     obtain⟨p,e1,e2⟩:=h3 (a / 128) hpg
     have w1:nL (((a / 128:Nat):Int))=((a / 128:Nat):Int):=nF (by omega) (by omega)
     have c1:wD (len s) (nL (128 - ((a % 128:Nat):Int)))=((min s.length (128 - a % 128):Nat):Int):=by
      rw[nF (by omega) (by omega)]
      unfold wD len
      by_cases hx:128 - ((a % 128:Nat):Int)<(s.length:Int)
      ·rw[if_pos hx];omega
      ·rw[if_neg hx];omega
     have w2:nL ((a:Int)+((min s.length (128 - a % 128):Nat):Int))=((a+min s.length (128 - a % 128):Nat):Int):=by rw[nF (by omega) (by omega)];omega
     have g1:okH s ((min s.length (128 - a % 128):Nat):Int)=true:=by simp only[okH,aw,eX];omega
     have g4:okL s ((min s.length (128 - a % 128):Nat):Int)=true:=by simp only[okL,aw,eX];omega
     have g5:zi s ((min s.length (128 - a % 128):Nat):Int)=s.drop (min s.length (128 - a % 128)):=by simp [zi]
     have g6:Pr s ((min s.length (128 - a % 128):Nat):Int)=s.take (min s.length (128 - a % 128)):=by simp [Pr]
     have g7:rK p ((a % 128:Nat):Int) (s.take (min s.length (128 - a % 128)))=true:=by
      simp only[rK,aw,eX,List.length_take];omega
     have tk:s.take (min s.length (128 - a % 128))=s.take (128 - a % 128):=by
      rcases Nat.le_total s.length (128 - a % 128) with h8 | h8
      ·rw[Nat.min_eq_left h8,List.take_length,List.take_of_length_le h8]
      ·rw[Nat.min_eq_right h8]
     have g8:vj p ((a % 128:Nat):Int) (s.take (min s.length (128 - a % 128)))=nbN p (a % 128) s:=by
      have hw:rz p ((a % 128:Nat):Int) (len (s.take (min s.length (128 - a % 128))))=true:=(within_iff (by omega)).2 (by simp only[len,List.length_take];omega)
      unfold vj nbN
      rw[hw,Bool.not_true,aQ,J6,List.append_assoc,List.length_take,tk]
      congr 3
      omega
     have st:=nkJ (a:=a) (s:=s) h3 hpg
     have this:=ih n (a+min s.length (128 - a % 128)) (s.drop (min s.length (128 - a % 128))) (Sa l a s) (by rw[List.length_drop];omega) (by omega) st.1 (by rw[st.2];exact h4) (by rw[st.2,List.length_drop];omega) M
     have e5:Sa l a s=l.set (a / 128) [.str (nbN p (a % 128) s)]:=by unfold Sa;rw[e1];rfl
     unfold npq
     rw[Lu hs,aj]
     rw[e5] at this ⊢
     simp only[uO,hd,nmW,nmX,w1,nR hpg,sq hpg,J6,e1,nf2,c1,w2,g1,g4,g5,g6,g7,g8,nbK,ng,nr,aj]
     exact this
    ·have:s=[]:=List.length_eq_zero_iff.1 (by omega)
     subst this
     simp only[uO,show decide (0<len ([]:Bytes))=false by decide,aQ]
     rfl
  exact key s.length (s.length+1) a s m.nP (Nat.le_refl _) (by omega) p1 p2 (by simp only[len] at p5;omega) _
def Nv (Y:na→Bool→α) (starts pX:Rows) (ov:Bytes→Int→Rows→α) (uc:Bytes) (k:Int) (pH:Rows):α:=
 let z0:Bytes:=Pr uc (rI (nth pX (Int.toNat k)) 0)
 bif decide (k<len starts) then
  bif Ed (Ed (Ed (Ed (Ed (Ed true (idx k starts)) (inl (Int.toNat k) starts)) (idx k pX)) (inl (Int.toNat k) pX)) (okH uc (rI (nth pX (Int.toNat k)) 0))) (sO (⟨pH⟩:na) (rI (nth starts (Int.toNat k)) 0) z0) then
   bif Ed (Ed (Ed true (idx k pX)) (inl (Int.toNat k) pX)) (okL uc (rI (nth pX (Int.toNat k)) 0)) then
    ov (zi uc (rI (nth pX (Int.toNat k)) 0)) (nL (k+1)) (((qE (⟨pH⟩:na) (rI (nth starts (Int.toNat k)) 0) z0).1).nP)
   else kf
  else kf
 else Y (⟨pH⟩:na) true
def Nu (Y:na→Bool→α) (N:Nat) (starts pX:Rows) (m_:Nat):Bytes→Int→Rows→α:=
 Nat.rec (motive:=fun _=>Bytes→Int→Rows→α) (fun _ _ _=>kf) (fun _ ov=>Nv kf Y starts pX ov) m_
theorem WH (Y:na→Bool→α) (N:Nat) (starts pX:Rows) (m_:Nat):Nu kf Y N starts pX (m_+1)=Nv kf Y starts pX (Nu kf Y N starts pX m_):=rfl
def TM (Y:na→Bool→α) (l0:Rows→Rows→Bytes→Int→Rows→α) (Z:Rows) (m:na) (O at_:Int) (s:Bytes):α:=
 let z0:Rows×Rows×Bool:=zx Z m O at_ (len s) true
 bif Ed true (sJ m) then
  bif !z0.2.2 then Y (n7 m) false
  else l0 z0.1 z0.2.1 s 0 ((n7 m).nP)
 else kf
def ndD (Y:na→Bool→α) (N:Nat) (Z:Rows) (m:na) (O at_:Int) (s:Bytes):α:=TM kf Y (fun starts pX=>Nu kf Y N starts pX N) Z m O at_ s
theorem nrT (Y:na→Bool→α) (Z:Rows) (m:na) (O at_:Int) (s:Bytes) (U5:kd na.ct m.enc) (vN:G5 .str (.str s)) (aP:sM Z m O at_ s=true):∃N,ndD kf Y N Z m O at_ s=Y (rk Z m O at_ s).1 (rk Z m O at_ s).2:=by
 have hp0:G5 (.sl [.str]) (.sl m.nP):=na.xz U5
 have Je:sJ m=true:=aP
 have My:=vI vN
 refine⟨(sC Z m O at_ (len s) true).1.length+1, ?_⟩
 unfold ndD TM rk put zx
 rw[show n7 m=m from rfl]
 simp only[Je,ng,aj]
 cases hr:(sC Z m O at_ (len s) true).2
 ·rfl
 ·obtain⟨g1,g2,g3⟩:=Ym hp0 hr
  simp only[Bool.not_true,aQ]
  generalize (sC Z m O at_ (len s) true).1=R at g3 ⊢
  have key:∀(q n i:Nat) (s:Bytes) (l:Rows),i+q=R.length→q<n→U0 (fun _=>True) (R.drop i) s.length→pgs l→l.length≤64→R.length≤5000→
    Nu kf Y (R.length+1) (R.map pF0) (R.map pF1) n s (i:Int) l=Y (⟨nwf (R.drop i) s l⟩:na) true:=by
   intro q
   induction q with
   | zero=>
    intro n i s l h1 h2 h3 h4 h5 h6
    obtain⟨n,rfl⟩:∃q,n=q+1:=⟨n - 1,by omega⟩
    rw[WH,List.drop_eq_nil_of_le (by omega)]
    have hf:decide ((i:Int)<len (R.map pF0))=false:=Lt (by simp only[len,List.length_map];omega)
    simp only[Nv,hf,aQ,nwf]
   | succ q ih=>
    intro n i s l h1 h2 h3 h4 h5 h6
    obtain⟨n,rfl⟩:∃q,n=q+1:=⟨n - 1,by omega⟩
    have hi:i<R.length:=by omega
    have e0:R[i]=nth R i:=by simp [nth,hi]
    rw[List.drop_eq_getElem_cons hi,e0] at h3 ⊢
    obtain⟨p,k,e1,k1,k2,k3,_,k4⟩:=h3
    rw[WH]
    have w1:nL ((i:Int)+1)=((i+1:Nat):Int):=by rw[nF (by omega) (by omega)];omega
    have x1:okH s (k:Int)=true:=by simp only[okH,aw,eX];omega
    have x2:okL s (k:Int)=true:=by simp only[okL,aw,eX];omega
    have x3:Pr s (k:Int)=s.take k:=by simp [Pr]
    have x4:zi s (k:Int)=s.drop k:=by simp [zi]
    have x5:∀a b,sO (⟨l⟩:na) a b=true:=fun a b=>by
     unfold sO sm
     exact Lu (by show l.length≤16777216;omega)
    have Mu:∀f:List DC→List DC,i<(R.map f).length:=fun f=>by rw[List.length_map];exact hi
    have n0:nth (R.map pF0) i=[.int (p:Int)]:=by rw[nxf _ hi,e1];rfl
    have n1:nth (R.map pF1) i=[.int (k:Int)]:=by rw[nxf _ hi,e1];rfl
    have r1:rI [DC.int (p:Int),DC.int (k:Int)] 0=(p:Int):=rfl
    have r2:rI [DC.int (p:Int),DC.int (k:Int)] 1=(k:Int):=rfl
    have wp:=nbP (a:=(p:Int)) (s:=s.take k) h4 h5
    have this:=ih n (i+1) (s.drop k) (qE (⟨l⟩:na) (p:Int) (s.take k)).1.nP (by omega) (by omega) (by rw[List.length_drop];exact k4) wp.1 (by rw[wp.2];exact h5) h6
    simp only[Nv,oU (Mu _),nR (Mu _),sq (Mu _),J6,n0,n1,e1,r1,r2,nyF,x1,x2,x3,x4,x5,w1,ng,nr,aj,nwf]
    exact this
  exact key R.length (R.length+1) 0 s m.nP (by omega) (by omega) (by have h:=g3.1;rw[show (len s).toNat=s.length by simp [len]] at h;exact h) g1 g2 g3.2
def ngL (Y:nE→α) (f:nE):α:=
 bif Ed true (qx 8 [] f.pV) then
  Y f
 else kf
def nkU (f:nE):Bool:=sm f.pV
theorem nu1 (Y:nE→α) (f:nE) (aP:nkU f=true):ngL kf Y f=Y (n7 f):=by
 have HD:nkU f=true:=aP
 unfold ngL
 rw[qY (show sm f.pV=true from HD) (show 8≤8388608 by omega)]
 rfl
def XD (Y:nE→α) (f:nE):α:=
 bif Ed true (sm f.pV) then
  Y (⟨f.Mac,f.pI,n7 f.pV⟩:nE)
 else kf
theorem nlc (Y:nE→α) (f:nE) (aP:nkU f=true):XD kf Y f=Y (n7 f):=by
 have HD:nkU f=true:=aP
 unfold XD
 rw[show sm f.pV=true from HD]
 rfl
def ngv (Y:ni→α) (t:ni):α:=
 bif Ed true (qx 56 [] t.nC) then
  Y t
 else kf
def nmV (t:ni):Bool:=sm t.nC
theorem nuO (Y:ni→α) (t:ni) (aP:nmV t=true):ngv kf Y t=Y (n7 t):=by
 have HD:nmV t=true:=aP
 unfold ngv
 rw[qY (show sm t.nC=true from HD) (show 56≤8388608 by omega)]
 rfl
def ZL (Y:ni→α) (t:ni):α:=
 bif Ed true (qx 56 [] t.nC) then
  Y t
 else kf
theorem nnr (Y:ni→α) (t:ni) (aP:nmV t=true):ZL kf Y t=Y (n7 t):=by
 have HD:nmV t=true:=aP
 unfold ZL
 rw[qY (show sm t.nC=true from HD) (show 56≤8388608 by omega)]
 rfl
def XG (Y:nB→α) (s:nB):α:=
 bif Ed true (sm s.Table) then
  Y (⟨s.Key,n7 s.Table⟩:nB)
 else kf
def nx9 (s:nB):Bool:=sm s.Table
theorem nlf (Y:nB→α) (s:nB) (aP:nx9 s=true):XG kf Y s=Y (n7 s):=by
 have HD:nx9 s=true:=aP
 unfold XG
 rw[show sm s.Table=true from HD]
 rfl
def ngB (Y:nm→α) (s:nm):α:=
 bif Ed (Ed (Ed true (qx 72 [] s.ot)) (nmV s.Table)) (qx 8 [] s.nX.Table) then
  Y (⟨s.ot,n7 s.Table,s.nX⟩:nm)
 else kf
def nbu (s:nm):Bool:=sm s.ot && (sm s.Table.nC && sm s.nX.Table)
theorem nuS (Y:nm→α) (s:nm) (aP:nbu s=true):ngB kf Y s=Y (n7 s):=by
 have HD:nbu s=true:=aP
 unfold ngB
 simp only[nbu,aw] at HD
 obtain⟨h1,h2,h3⟩:=HD
 rw[qY h1 (show 72≤8388608 by omega),qY h3 (show 8≤8388608 by omega),show nmV s.Table=true from h2]
 rfl
def Ug (Y:nm→α) (s:nm):α:=
 bif Ed (Ed (Ed true (qx 72 [] s.ot)) (nmV s.Table)) (nx9 s.nX) then
  Y (⟨s.ot,n7 s.Table,n7 s.nX⟩:nm)
 else kf
theorem nhg (Y:nm→α) (s:nm) (aP:nbu s=true):Ug kf Y s=Y (n7 s):=by
 have HD:nbu s=true:=aP
 unfold Ug
 simp only[nbu,aw] at HD
 obtain⟨h1,h2,h3⟩:=HD
 rw[qY h1 (show 72≤8388608 by omega),show nmV s.Table=true from h2,show nx9 s.nX=true from h3]
 rfl
def Uf (Y:Rows→α) (Z:Rows):α:=
 bif Ed true (qx 32 [] Z) then
  Y Z
 else kf
theorem nhe (Y:Rows→α) (Z:Rows) (aP:sm Z=true):Uf kf Y Z=Y (n7 Z):=by
 have HD:sm Z=true:=aP
 unfold Uf
 rw[qY (show sm Z=true from HD) (show 32≤8388608 by omega)]
 rfl
def VD (Y:Rows→α) (Z:Rows):α:=
 bif Ed true (qx 72 [] Z) then
  Y Z
 else kf
theorem njC (Y:Rows→α) (Z:Rows) (aP:sm Z=true):VD kf Y Z=Y (n7 Z):=by
 have HD:sm Z=true:=aP
 unfold VD
 rw[qY (show sm Z=true from HD) (show 72≤8388608 by omega)]
 rfl
def zZ (Y:Rows→α) (Z:Rows) (oy:Int) (ov:Int→Rows→α) (oD:Int) (oc:Rows):α:=
 bif decide (oD<oy) then
  bif Ed true (idx oD Z) then
   bif Ed (Ed true (sm (rR (nth Z (Int.toNat oD)) 2))) (qx 40 oc ([[.int (rI (nth Z (Int.toNat oD)) 0),.int (rI (nth Z (Int.toNat oD)) 1),.sl (n7 (rR (nth Z (Int.toNat oD)) 2))]])) then
    ov (nL (oD+1)) (oc++([[.int (rI (nth Z (Int.toNat oD)) 0),.int (rI (nth Z (Int.toNat oD)) 1),.sl (n7 (rR (nth Z (Int.toNat oD)) 2))]]))
   else kf
  else kf
 else Y oc
def vc (Y:Rows→α) (N:Nat) (Z:Rows) (oy:Int) (m_:Nat):Int→Rows→α:=
 Nat.rec (motive:=fun _=>Int→Rows→α) (fun _ _=>kf) (fun _ ov=>zZ kf Y Z oy ov) m_
theorem VB (Y:Rows→α) (N:Nat) (Z:Rows) (oy:Int) (m_:Nat):vc kf Y N Z oy (m_+1)=zZ kf Y Z oy (vc kf Y N Z oy m_):=rfl
def TA (kf:α) (Y:Rows→α) (l0:Int→Int→Rows→α) (Z:Rows):α:=
 l0 (len Z) 0 []
def ncN (Y:Rows→α) (N:Nat) (Z:Rows):α:=TA kf Y (fun oy=>vc kf Y N Z oy N) Z
theorem nqz (Y:Rows→α) (Z:Rows) (qh:G5 (.sl [.i,.i,.sl [.i]]) (.sl Z)) (aP:QE Z=true):∃N,ncN kf Y N Z=Y (n7 Z):=by
 obtain⟨hl,hw⟩:=oG qh
 have HD:=aP
 simp only[QE,aw,List.all_eq_true] at HD
 obtain⟨s1,s2⟩:=HD
 have l1:=uy s1
 refine⟨Z.length+1, ?_⟩
 unfold ncN TA
 refine (yt Z.length (fun n i o=>vc kf Y (Z.length+1) Z (len Z) n i o) (fun i o=>o++[nth Z i]) Y (fun i o=>o.length≤i) ?_ ?_ ?_ (Z.length+1) [] (by simp) (by omega)).trans ?_
 ·intro i o hi ho
  simp only[fv,dx,List.length_nil];omega
 ·intro n i o hi ho
  show vc kf Y (Z.length+1) Z (len Z) (n+1) (i:Int) o=_
  rw[VB]
  have er:[DC.int (rI (nth Z i) 0),DC.int (rI (nth Z i) 1),DC.sl (rR (nth Z i) 2)]=nth Z i:=oZ.eta (hw _ (sr hi))
  have hb:sm (rR (nth Z i) 2)=true:=s2 _ (sr hi)
  have iG:qx 8 [] (rR (nth Z i) 2)=true:=qY hb (show 8≤8388608 by omega)
  have eO:∀x:List DC,qx 40 o [x]=true:=fun x=>Oc (by simp only[dx,List.length_nil];omega) (by omega)
  simp only[zZ,n7,oU hi,nR hi,hb,eO,er,ou hi hl,J6,ng,nr,aj]
 ·intro n o ho
  show vc kf Y (Z.length+1) Z (len Z) (n+1) (Z.length:Int) o=_
  rw[VB]
  simp only[zZ,nQ,aQ]
 ·exact congrArg Y ((UT (fun (o:Rows) (r:List DC)=>o++[r]) Z [] []).trans ((foldl_push (fun r=>r) Z []).trans (by simp [n7])))
def O2 (Y:nt→α) (Y9:Rows) (oc qR qS qT qU qV qW qX:Int) (Ns:Rows) (ov:Int→Rows→α) (k:Int) (nf0:Rows):α:=
 bif decide (k<len Y9) then
  bif Ed true (idx k Y9) then
   bif Ed (Ed true (qx 8 [] (rR (nth Y9 (Int.toNat k)) 2))) (qx 40 nf0 ([[.int (rI (nth Y9 (Int.toNat k)) 0),.int (rI (nth Y9 (Int.toNat k)) 1),.sl (rR (nth Y9 (Int.toNat k)) 2)]])) then
    ov (nL (k+1)) (nf0++([[.int (rI (nth Y9 (Int.toNat k)) 0),.int (rI (nth Y9 (Int.toNat k)) 1),.sl (rR (nth Y9 (Int.toNat k)) 2)]]))
   else kf
  else kf
 else Y (⟨(⟨oc,qR,qS,qT⟩:n8),(⟨qU,qV,qW,Ns⟩:nJ),nf0,qX⟩:nt)
def uG (Y:nt→α) (N:Nat) (Y9:Rows) (oc qR qS qT qU qV qW qX:Int) (Ns:Rows) (m_:Nat):Int→Rows→α:=
 Nat.rec (motive:=fun _=>Int→Rows→α) (fun _ _=>kf) (fun _ ov=>O2 kf Y Y9 oc qR qS qT qU qV qW qX Ns ov) m_
theorem YC (Y:nt→α) (N:Nat) (Y9:Rows) (oc qR qS qT qU qV qW qX:Int) (Ns:Rows) (m_:Nat):uG kf Y N Y9 oc qR qS qT qU qV qW qX Ns (m_+1)=O2 kf Y Y9 oc qR qS qT qU qV qW qX Ns (uG kf Y N Y9 oc qR qS qT qU qV qW qX Ns m_):=rfl
def W4 (Y:nt→α) (l0:Rows→Int→Int→Int→Int→Int→Int→Int→Int→Rows→Int→Rows→α) (q:nt):α:=
 bif Ed true (QD q.oq) then
  l0 q.nK q.Ring.qk q.Ring.nO q.Ring.Head q.Ring.wI ((n7 q.oq).qk) ((n7 q.oq).nO) ((n7 q.oq).Count) q.Next ((n7 q.oq).qs) 0 []
 else kf
def ngK (Y:nt→α) (N:Nat) (q:nt):α:=W4 kf Y (fun Y9 oc qR qS qT qU qV qW qX Ns=>uG kf Y N Y9 oc qR qS qT qU qV qW qX Ns N) q
def nu9 (q:nt):Bool:=sm q.oq.qs && QE q.nK
theorem nuY (Y:nt→α) (q:nt) (h_q:kd nt.ct q.enc) (aP:nu9 q=true):∃N,ngK kf Y N q=Y (n7 q):=by
 obtain⟨hl,hw⟩:=oG (nt.Sb h_q)
 have HD:=aP
 simp only[nu9,QE,aw,List.all_eq_true] at HD
 obtain⟨s0,s1,s2⟩:=HD
 have l1:=uy s1
 refine⟨q.nK.length+1, ?_⟩
 unfold ngK W4
 rw[show QD q.oq=true from s0]
 have key:∀(x0 x1 x2 x3 x4 x5 x6 x7:Int) (F:Rows),uG kf Y (q.nK.length+1) q.nK x0 x1 x2 x3 x4 x5 x6 x7 F (q.nK.length+1) 0 []=Y (⟨⟨x0,x1,x2,x3⟩,⟨x4,x5,x6,F⟩,q.nK,x7⟩:nt):=by
  intro x0 x1 x2 x3 x4 x5 x6 x7 F
  refine (yt q.nK.length (fun n i o=>uG kf Y (q.nK.length+1) q.nK x0 x1 x2 x3 x4 x5 x6 x7 F n i o) (fun i o=>o++[nth q.nK i]) (fun o=>Y (⟨⟨x0,x1,x2,x3⟩,⟨x4,x5,x6,F⟩,o,x7⟩:nt)) (fun i o=>o.length≤i) ?_ ?_ ?_ (q.nK.length+1) [] (by simp) (by omega)).trans ?_
  ·intro i o hi ho
   simp only[fv,dx,List.length_nil];omega
  ·intro n i o hi ho
   show uG kf Y (q.nK.length+1) q.nK x0 x1 x2 x3 x4 x5 x6 x7 F (n+1) (i:Int) o=_
   rw[YC]
   have er:[DC.int (rI (nth q.nK i) 0),DC.int (rI (nth q.nK i) 1),DC.sl (rR (nth q.nK i) 2)]=nth q.nK i:=oZ.eta (hw _ (sr hi))
   have hb:sm (rR (nth q.nK i) 2)=true:=s2 _ (sr hi)
   have iG:qx 8 [] (rR (nth q.nK i) 2)=true:=qY hb (show 8≤8388608 by omega)
   have eO:∀x:List DC,qx 40 o [x]=true:=fun x=>Oc (by simp only[dx,List.length_nil];omega) (by omega)
   simp only[O2,oU hi,nR hi,iG,eO,er,ou hi hl,J6,ng,nr,aj]
  ·intro n o ho
   show uG kf Y (q.nK.length+1) q.nK x0 x1 x2 x3 x4 x5 x6 x7 F (n+1) (q.nK.length:Int) o=_
   rw[YC]
   simp only[O2,nQ,aQ]
  ·exact congrArg (fun o=>Y (⟨⟨x0,x1,x2,x3⟩,⟨x4,x5,x6,F⟩,o,x7⟩:nt)) ((UT (fun (o:Rows) (r:List DC)=>o++[r]) q.nK [] []).trans ((foldl_push (fun r=>r) q.nK []).trans (by simp)))
 exact key _ _ _ _ _ _ _ _ _
def nhZ (Y:nt→α) (q:nt):α:=
 bif Ed (Ed true (QD q.oq)) (QE q.nK) then
  Y (⟨q.Ring,n7 q.oq,n7 q.nK,q.Next⟩:nt)
 else kf
theorem nvt (Y:nt→α) (q:nt) (aP:nu9 q=true):nhZ kf Y q=Y (n7 q):=by
 have HD:=aP
 simp only[nu9,aw] at HD
 obtain⟨s0,s1⟩:=HD
 unfold nhZ
 rw[show QD q.oq=true from s0,s1]
 rfl
def zY (Y:ny→α) (x:Rows) (oy:Int) (pe ra:Rows) (rn:Int) (rp:Bool) (rb pM pN:Rows) (pR:Bytes) (pO re rh ri rj:Rows) (oc qR qS qT qU qV qW qX:Int) (qI:Bool) (qJ qK qL qM qN:Int) (pH pS pT oV oW:Rows) (ov:Int→Rows→α) (oD:Int) (vv:Rows):α:=
 let z0:nm:=(⟨pM,(⟨pN⟩:ni),(⟨pR,pO⟩:nB)⟩:nm)
 bif decide (oD<oy) then
  bif Ed true (idx oD x) then
   bif Ed (Ed true (QD (nJ.nc (nth x (Int.toNat oD)) 0))) (qx 48 vv [nJ.enc (n7 (nJ.nc (nth x (Int.toNat oD)) 0))]) then
    ov (nL (oD+1)) (vv++[nJ.enc (n7 (nJ.nc (nth x (Int.toNat oD)) 0))])
   else kf
  else kf
 else bif Ed true (qx 40 [] pe) then
   bif Ed true (qx 1 [] ra) then
    bif Ed true (nkU (⟨rn,rp,rb⟩:nE)) then
     bif Ed true (nbu z0) then
      bif Ed true (sm re) then
       bif Ed true (sm rh) then
        bif Ed true (sm ri) then
         bif Ed true (sm rj) then
          Y (⟨(⟨pH⟩:na),pS,(⟨(⟨oc,qR,qS,qT⟩:n8),(⟨qU,qV,qW,pT⟩:nJ),oV,qX⟩:nt),oW,vv,pe,ra,n7 (⟨rn,rp,rb⟩:nE),n7 z0,n7 re,qI,n7 rh,n7 ri,n7 rj,(⟨qJ,qK,qL,qM,qN⟩:nV)⟩:ny)
         else kf
        else kf
       else kf
      else kf
     else kf
    else kf
   else kf
  else kf
def tW (Y:ny→α) (N:Nat) (x:Rows) (oy:Int) (pe ra:Rows) (rn:Int) (rp:Bool) (rb pM pN:Rows) (pR:Bytes) (pO re rh ri rj:Rows) (oc qR qS qT qU qV qW qX:Int) (qI:Bool) (qJ qK qL qM qN:Int) (pH pS pT oV oW:Rows) (m_:Nat):Int→Rows→α:=
 Nat.rec (motive:=fun _=>Int→Rows→α) (fun _ _=>kf) (fun _ ov=>zY kf Y x oy pe ra rn rp rb pM pN pR pO re rh ri rj oc qR qS qT qU qV qW qX qI qJ qK qL qM qN pH pS pT oV oW ov) m_
theorem VA (Y:ny→α) (N:Nat) (x:Rows) (oy:Int) (pe ra:Rows) (rn:Int) (rp:Bool) (rb pM pN:Rows) (pR:Bytes) (pO re rh ri rj:Rows) (oc qR qS qT qU qV qW qX:Int) (qI:Bool) (qJ qK qL qM qN:Int) (pH pS pT oV oW:Rows) (m_:Nat):tW kf Y N x oy pe ra rn rp rb pM pN pR pO re rh ri rj oc qR qS qT qU qV qW qX qI qJ qK qL qM qN pH pS pT oV oW (m_+1)=zY kf Y x oy pe ra rn rp rb pM pN pR pO re rh ri rj oc qR qS qT qU qV qW qX qI qJ qK qL qM qN pH pS pT oV oW (tW kf Y N x oy pe ra rn rp rb pM pN pR pO re rh ri rj oc qR qS qT qU qV qW qX qI qJ qK qL qM qN pH pS pT oV oW m_):=rfl
def Tw (Y:ny→α) (l0:Rows→Int→Rows→Rows→Int→Bool→Rows→Rows→Rows→Bytes→Rows→Rows→Rows→Rows→Rows→Int→Int→Int→Int→Int→Int→Int→Int→Bool→Int→Int→Int→Int→Int→Rows→Rows→Rows→Rows→Rows→Int→Rows→α) (h:ny):α:=
 bif Ed true (sJ h.ox) then
  bif Ed true (sm h.Maps) then
   bif Ed true (nu9 h.Tx) then
    bif Ed true (qx 248 [] h.Rx) then
     l0 h.og (len h.og) h.nS h.oQ h.Filter.Mac h.Filter.pI h.Filter.pV h.nv.ot h.nv.Table.nC h.nv.nX.Key h.nv.nX.Table h.pJ h.vM h.oF h.oY (((n7 h.Tx).Ring).qk) (((n7 h.Tx).Ring).nO) (((n7 h.Tx).Ring).Head) (((n7 h.Tx).Ring).wI) (((n7 h.Tx).oq).qk) (((n7 h.Tx).oq).nO) (((n7 h.Tx).oq).Count) ((n7 h.Tx).Next) h.qe h.Counters.Frames h.Counters.Bad h.Counters.qj h.Counters.qQ h.Counters.uf ((n7 h.ox).nP) (n7 h.Maps) (((n7 h.Tx).oq).qs) ((n7 h.Tx).nK) h.Rx 0 []
    else kf
   else kf
  else kf
 else kf
def ncH (Y:ny→α) (N:Nat) (h:ny):α:=Tw kf Y (fun x oy pe ra rn rp rb pM pN pR pO re rh ri rj oc qR qS qT qU qV qW qX qI qJ qK qL qM qN pH pS pT oV oW=>tW kf Y N x oy pe ra rn rp rb pM pN pR pO re rh ri rj oc qR qS qT qU qV qW qX qI qJ qK qL qM qN pH pS pT oV oW N) h
theorem nqu (Y:ny→α) (h:ny) (h_h:kd ny.ct h.enc) (aP:xh h=true):∃N,ncH kf Y N h=Y (n7 h):=by
 obtain⟨hl,hw⟩:=oG (ny.nvd h_h)
 have HD:xh h=true:=aP
 simp only[xh,aw] at HD
 obtain⟨s0,s1,s2,s3,s4,s5,s6,s7,s8,s9,s10,s11,s12,s13,s14,s15⟩:=HD
 simp only[nbH,aw,List.all_eq_true] at s5
 obtain⟨t1,t2⟩:=s5
 have l1:=uy t1
 have m2:nu9 h.Tx=true:=by simp only[nu9,s2,s3,Bool.and_self]
 have r4:qx 248 [] h.Rx=true:=qY s4 (by omega)
 refine⟨h.og.length+1, ?_⟩
 unfold ncH Tw
 rw[show sJ h.ox=true from s0]
 simp only[m2,r4,s1,ng,aj]
 have key:∀(pe:Rows) (ra:Rows) (rn:Int) (rp:Bool) (rb:Rows) (pM:Rows) (pN:Rows) (pR:Bytes) (pO:Rows) (re:Rows) (rh:Rows) (ri:Rows) (rj:Rows) (oc:Int) (qR:Int) (qS:Int) (qT:Int) (qU:Int) (qV:Int) (qW:Int) (qX:Int) (qI:Bool) (qJ:Int) (qK:Int) (qL:Int) (qM:Int) (qN:Int) (pH:Rows) (pS:Rows) (pT:Rows) (oV:Rows) (oW:Rows),sm pe=true→sm ra=true→sm rb=true→sm pM=true→sm pN=true→sm pO=true→sm re=true→sm rh=true→sm ri=true→sm rj=true→
   tW kf Y (h.og.length+1) h.og (len h.og) pe ra rn rp rb pM pN pR pO re rh ri rj oc qR qS qT qU qV qW qX qI qJ qK qL qM qN pH pS pT oV oW (h.og.length+1) 0 []=Y (⟨(⟨pH⟩:na),pS,(⟨(⟨oc,qR,qS,qT⟩:n8),(⟨qU,qV,qW,pT⟩:nJ),oV,qX⟩:nt),oW,h.og,pe,ra,(⟨rn,rp,rb⟩:nE),(⟨pM,(⟨pN⟩:ni),(⟨pR,pO⟩:nB)⟩:nm),re,qI,rh,ri,rj,(⟨qJ,qK,qL,qM,qN⟩:nV)⟩:ny):=by
  intro pe ra rn rp rb pM pN pR pO re rh ri rj oc qR qS qT qU qV qW qX qI qJ qK qL qM qN pH pS pT oV oW q6 q7 q8 q9 q10 q11 q12 q13 q14 q15
  have u6:qx 40 [] pe=true:=qY q6 (by omega)
  have u7:qx 1 [] ra=true:=qY q7 (by omega)
  have u8:nkU (⟨rn,rp,rb⟩:nE)=true:=q8
  have u9:nbu (⟨pM,(⟨pN⟩:ni),(⟨pR,pO⟩:nB)⟩:nm)=true:=by simp only[nbu,q9,q10,q11,Bool.and_self]
  have u12:qx 72 [] re=true:=qY q12 (by omega)
  have u13:qx 16 [] rh=true:=qY q13 (by omega)
  have u14:qx 8 [] ri=true:=qY q14 (by omega)
  have u15:qx 8 [] rj=true:=qY q15 (by omega)
  refine (yt h.og.length (fun n i o=>tW kf Y (h.og.length+1) h.og (len h.og) pe ra rn rp rb pM pN pR pO re rh ri rj oc qR qS qT qU qV qW qX qI qJ qK qL qM qN pH pS pT oV oW n i o) (fun i o=>o++[nth h.og i]) (fun o=>Y (⟨(⟨pH⟩:na),pS,(⟨(⟨oc,qR,qS,qT⟩:n8),(⟨qU,qV,qW,pT⟩:nJ),oV,qX⟩:nt),oW,o,pe,ra,(⟨rn,rp,rb⟩:nE),(⟨pM,(⟨pN⟩:ni),(⟨pR,pO⟩:nB)⟩:nm),re,qI,rh,ri,rj,(⟨qJ,qK,qL,qM,qN⟩:nV)⟩:ny)) (fun i o=>o.length≤i) ?_ ?_ ?_ (h.og.length+1) [] (by simp) (by omega)).trans ?_
  ·intro i o hi ho
   simp only[fv,dx,List.length_nil];omega
  ·intro n i o hi ho
   show tW kf Y (h.og.length+1) h.og (len h.og) pe ra rn rp rb pM pN pR pO re rh ri rj oc qR qS qT qU qV qW qX qI qJ qK qL qM qN pH pS pT oV oW (n+1) (i:Int) o=_
   rw[VA]
   have er:nJ.enc (nJ.nc (nth h.og i) 0)=nth h.og i:=nJ.eta (hw _ (sr hi))
   have hb:QD (nJ.nc (nth h.og i) 0)=true:=t2 _ (sr hi)
   have eO:∀x:List DC,qx 48 o [x]=true:=fun x=>Oc (by simp only[dx,List.length_nil];omega) (by omega)
   simp only[zY,n7,oU hi,nR hi,hb,eO,er,ou hi hl,J6,ng,nr,aj]
  ·intro n o ho
   show tW kf Y (h.og.length+1) h.og (len h.og) pe ra rn rp rb pM pN pR pO re rh ri rj oc qR qS qT qU qV qW qX qI qJ qK qL qM qN pH pS pT oV oW (n+1) (h.og.length:Int) o=_
   rw[VA]
   simp only[zY,nQ,aQ,n7,u6,u7,u8,u9,u12,u13,u14,u15,q12,q13,q14,q15,ng,aj]
  ·exact congrArg (fun o=>Y (⟨(⟨pH⟩:na),pS,(⟨(⟨oc,qR,qS,qT⟩:n8),(⟨qU,qV,qW,pT⟩:nJ),oV,qX⟩:nt),oW,o,pe,ra,(⟨rn,rp,rb⟩:nE),(⟨pM,(⟨pN⟩:ni),(⟨pR,pO⟩:nB)⟩:nm),re,qI,rh,ri,rj,(⟨qJ,qK,qL,qM,qN⟩:nV)⟩:ny)) ((UT (fun (o:Rows) (r:List DC)=>o++[r]) h.og [] []).trans ((foldl_push (fun r=>r) h.og []).trans (by simp)))
 exact key _ _ _ _ _ _ _ _ _ _ _ _ _ _ _ _ _ _ _ _ _ _ _ _ _ _ _ _ _ _ _ _ s6 s7 s8 s9 s10 s11 s12 s13 s14 s15
def O3 (Y:ny→α) (qz pe ra:Rows) (rn:Int) (rp:Bool) (rb pM pN:Rows) (pR:Bytes) (pO re rh ri rj:Rows) (oc qR qS qT qU qV qW qX:Int) (qI:Bool) (qJ qK qL qM qN:Int) (pH pS pT oV oW:Rows) (ov:Int→Rows→α) (k:Int) (vv:Rows):α:=
 let z0:nm:=(⟨pM,(⟨pN⟩:ni),(⟨pR,pO⟩:nB)⟩:nm)
 bif decide (k<len qz) then
  bif Ed (Ed (Ed true (idx k qz)) (QD (nJ.nc (nth qz (Int.toNat k)) 0))) (qx 48 vv [nJ.enc (n7 (nJ.nc (nth qz (Int.toNat k)) 0))]) then
   ov (nL (k+1)) (vv++[nJ.enc (n7 (nJ.nc (nth qz (Int.toNat k)) 0))])
  else kf
 else bif Ed true (qx 40 [] pe) then
   bif Ed true (qx 1 [] ra) then
    bif Ed true (nkU (⟨rn,rp,rb⟩:nE)) then
     bif Ed true (nbu z0) then
      bif Ed true (qx 72 [] re) then
       bif Ed true (qx 16 [] rh) then
        bif Ed true (qx 8 [] ri) then
         bif Ed true (qx 8 [] rj) then
          Y (⟨(⟨pH⟩:na),pS,(⟨(⟨oc,qR,qS,qT⟩:n8),(⟨qU,qV,qW,pT⟩:nJ),oV,qX⟩:nt),oW,vv,pe,ra,n7 (⟨rn,rp,rb⟩:nE),n7 z0,re,qI,rh,ri,rj,(⟨qJ,qK,qL,qM,qN⟩:nV)⟩:ny)
         else kf
        else kf
       else kf
      else kf
     else kf
    else kf
   else kf
  else kf
def uH (Y:ny→α) (N:Nat) (qz pe ra:Rows) (rn:Int) (rp:Bool) (rb pM pN:Rows) (pR:Bytes) (pO re rh ri rj:Rows) (oc qR qS qT qU qV qW qX:Int) (qI:Bool) (qJ qK qL qM qN:Int) (pH pS pT oV oW:Rows) (m_:Nat):Int→Rows→α:=
 Nat.rec (motive:=fun _=>Int→Rows→α) (fun _ _=>kf) (fun _ ov=>O3 kf Y qz pe ra rn rp rb pM pN pR pO re rh ri rj oc qR qS qT qU qV qW qX qI qJ qK qL qM qN pH pS pT oV oW ov) m_
theorem YD (Y:ny→α) (N:Nat) (qz pe ra:Rows) (rn:Int) (rp:Bool) (rb pM pN:Rows) (pR:Bytes) (pO re rh ri rj:Rows) (oc qR qS qT qU qV qW qX:Int) (qI:Bool) (qJ qK qL qM qN:Int) (pH pS pT oV oW:Rows) (m_:Nat):uH kf Y N qz pe ra rn rp rb pM pN pR pO re rh ri rj oc qR qS qT qU qV qW qX qI qJ qK qL qM qN pH pS pT oV oW (m_+1)=O3 kf Y qz pe ra rn rp rb pM pN pR pO re rh ri rj oc qR qS qT qU qV qW qX qI qJ qK qL qM qN pH pS pT oV oW (uH kf Y N qz pe ra rn rp rb pM pN pR pO re rh ri rj oc qR qS qT qU qV qW qX qI qJ qK qL qM qN pH pS pT oV oW m_):=rfl
def W5 (Y:ny→α) (l0:Rows→Rows→Rows→Int→Bool→Rows→Rows→Rows→Bytes→Rows→Rows→Rows→Rows→Rows→Int→Int→Int→Int→Int→Int→Int→Int→Bool→Int→Int→Int→Int→Int→Rows→Rows→Rows→Rows→Rows→Int→Rows→α) (h:ny):α:=
 bif Ed true (sJ h.ox) then
  bif Ed true (qx 32 [] h.Maps) then
   bif Ed true (nu9 h.Tx) then
    bif Ed true (qx 248 [] h.Rx) then
     l0 h.og h.nS h.oQ h.Filter.Mac h.Filter.pI h.Filter.pV h.nv.ot h.nv.Table.nC h.nv.nX.Key h.nv.nX.Table h.pJ h.vM h.oF h.oY (((n7 h.Tx).Ring).qk) (((n7 h.Tx).Ring).nO) (((n7 h.Tx).Ring).Head) (((n7 h.Tx).Ring).wI) (((n7 h.Tx).oq).qk) (((n7 h.Tx).oq).nO) (((n7 h.Tx).oq).Count) ((n7 h.Tx).Next) h.qe h.Counters.Frames h.Counters.Bad h.Counters.qj h.Counters.qQ h.Counters.uf ((n7 h.ox).nP) h.Maps (((n7 h.Tx).oq).qs) ((n7 h.Tx).nK) h.Rx 0 []
    else kf
   else kf
  else kf
 else kf
def ngP (Y:ny→α) (N:Nat) (h:ny):α:=W5 kf Y (fun qz pe ra rn rp rb pM pN pR pO re rh ri rj oc qR qS qT qU qV qW qX qI qJ qK qL qM qN pH pS pT oV oW=>uH kf Y N qz pe ra rn rp rb pM pN pR pO re rh ri rj oc qR qS qT qU qV qW qX qI qJ qK qL qM qN pH pS pT oV oW N) h
theorem nu4 (Y:ny→α) (h:ny) (h_h:kd ny.ct h.enc) (aP:xh h=true):∃N,ngP kf Y N h=Y (n7 h):=by
 obtain⟨hl,hw⟩:=oG (ny.nvd h_h)
 have HD:xh h=true:=aP
 simp only[xh,aw] at HD
 obtain⟨s0,s1,s2,s3,s4,s5,s6,s7,s8,s9,s10,s11,s12,s13,s14,s15⟩:=HD
 simp only[nbH,aw,List.all_eq_true] at s5
 obtain⟨t1,t2⟩:=s5
 have l1:=uy t1
 have m2:nu9 h.Tx=true:=by simp only[nu9,s2,s3,Bool.and_self]
 have r4:qx 248 [] h.Rx=true:=qY s4 (by omega)
 have r1:qx 32 [] h.Maps=true:=qY s1 (by omega)
 refine⟨h.og.length+1, ?_⟩
 unfold ngP W5
 rw[show sJ h.ox=true from s0]
 simp only[m2,r4,r1,ng,aj]
 have key:∀(pe:Rows) (ra:Rows) (rn:Int) (rp:Bool) (rb:Rows) (pM:Rows) (pN:Rows) (pR:Bytes) (pO:Rows) (re:Rows) (rh:Rows) (ri:Rows) (rj:Rows) (oc:Int) (qR:Int) (qS:Int) (qT:Int) (qU:Int) (qV:Int) (qW:Int) (qX:Int) (qI:Bool) (qJ:Int) (qK:Int) (qL:Int) (qM:Int) (qN:Int) (pH:Rows) (pS:Rows) (pT:Rows) (oV:Rows) (oW:Rows),sm pe=true→sm ra=true→sm rb=true→sm pM=true→sm pN=true→sm pO=true→sm re=true→sm rh=true→sm ri=true→sm rj=true→
   uH kf Y (h.og.length+1) h.og pe ra rn rp rb pM pN pR pO re rh ri rj oc qR qS qT qU qV qW qX qI qJ qK qL qM qN pH pS pT oV oW (h.og.length+1) 0 []=Y (⟨(⟨pH⟩:na),pS,(⟨(⟨oc,qR,qS,qT⟩:n8),(⟨qU,qV,qW,pT⟩:nJ),oV,qX⟩:nt),oW,h.og,pe,ra,(⟨rn,rp,rb⟩:nE),(⟨pM,(⟨pN⟩:ni),(⟨pR,pO⟩:nB)⟩:nm),re,qI,rh,ri,rj,(⟨qJ,qK,qL,qM,qN⟩:nV)⟩:ny):=by
  intro pe ra rn rp rb pM pN pR pO re rh ri rj oc qR qS qT qU qV qW qX qI qJ qK qL qM qN pH pS pT oV oW q6 q7 q8 q9 q10 q11 q12 q13 q14 q15
  have u6:qx 40 [] pe=true:=qY q6 (by omega)
  have u7:qx 1 [] ra=true:=qY q7 (by omega)
  have u8:nkU (⟨rn,rp,rb⟩:nE)=true:=q8
  have u9:nbu (⟨pM,(⟨pN⟩:ni),(⟨pR,pO⟩:nB)⟩:nm)=true:=by simp only[nbu,q9,q10,q11,Bool.and_self]
  have u12:qx 72 [] re=true:=qY q12 (by omega)
  have u13:qx 16 [] rh=true:=qY q13 (by omega)
  have u14:qx 8 [] ri=true:=qY q14 (by omega)
  have u15:qx 8 [] rj=true:=qY q15 (by omega)
  refine (yt h.og.length (fun n i o=>uH kf Y (h.og.length+1) h.og pe ra rn rp rb pM pN pR pO re rh ri rj oc qR qS qT qU qV qW qX qI qJ qK qL qM qN pH pS pT oV oW n i o) (fun i o=>o++[nth h.og i]) (fun o=>Y (⟨(⟨pH⟩:na),pS,(⟨(⟨oc,qR,qS,qT⟩:n8),(⟨qU,qV,qW,pT⟩:nJ),oV,qX⟩:nt),oW,o,pe,ra,(⟨rn,rp,rb⟩:nE),(⟨pM,(⟨pN⟩:ni),(⟨pR,pO⟩:nB)⟩:nm),re,qI,rh,ri,rj,(⟨qJ,qK,qL,qM,qN⟩:nV)⟩:ny)) (fun i o=>o.length≤i) ?_ ?_ ?_ (h.og.length+1) [] (by simp) (by omega)).trans ?_
  ·intro i o hi ho
   simp only[fv,dx,List.length_nil];omega
  ·intro n i o hi ho
   show uH kf Y (h.og.length+1) h.og pe ra rn rp rb pM pN pR pO re rh ri rj oc qR qS qT qU qV qW qX qI qJ qK qL qM qN pH pS pT oV oW (n+1) (i:Int) o=_
   rw[YD]
   have er:nJ.enc (nJ.nc (nth h.og i) 0)=nth h.og i:=nJ.eta (hw _ (sr hi))
   have hb:QD (nJ.nc (nth h.og i) 0)=true:=t2 _ (sr hi)
   have eO:∀x:List DC,qx 48 o [x]=true:=fun x=>Oc (by simp only[dx,List.length_nil];omega) (by omega)
   simp only[O3,n7,oU hi,nR hi,hb,eO,er,ou hi hl,J6,ng,nr,aj]
  ·intro n o ho
   show uH kf Y (h.og.length+1) h.og pe ra rn rp rb pM pN pR pO re rh ri rj oc qR qS qT qU qV qW qX qI qJ qK qL qM qN pH pS pT oV oW (n+1) (h.og.length:Int) o=_
   rw[YD]
   simp only[O3,nQ,aQ,n7,u6,u7,u8,u9,u12,u13,u14,u15,q12,q13,q14,q15,ng,aj]
  ·exact congrArg (fun o=>Y (⟨(⟨pH⟩:na),pS,(⟨(⟨oc,qR,qS,qT⟩:n8),(⟨qU,qV,qW,pT⟩:nJ),oV,qX⟩:nt),oW,o,pe,ra,(⟨rn,rp,rb⟩:nE),(⟨pM,(⟨pN⟩:ni),(⟨pR,pO⟩:nB)⟩:nm),re,qI,rh,ri,rj,(⟨qJ,qK,qL,qM,qN⟩:nV)⟩:ny)) ((UT (fun (o:Rows) (r:List DC)=>o++[r]) h.og [] []).trans ((foldl_push (fun r=>r) h.og []).trans (by simp)))
 exact key _ _ _ _ _ _ _ _ _ _ _ _ _ _ _ _ _ _ _ _ _ _ _ _ _ _ _ _ _ _ _ _ s6 s7 s8 s9 s10 s11 s12 s13 s14 s15
def Vz (Y:nA→α) (v:nA):α:=
 bif bif due v then !v.Rc else false then Y (⟨v.zn,v.PH,v.Count,v.Time,v.Rc,true⟩:nA)
 else Y v
def nm4 (v:nA):nA:=Vz id v
theorem nte (Y:nA→α) (v:nA):Vz Y v=Y (nm4 v):=by
 exact J9 rfl rfl
def nek (Y:nA→α) (v:nA):α:=
 Y (⟨bif v.Rd then v.zn else bif due v then v.zn else v.zn,bif v.Rd then v.PH else bif due v then v.PH else v.PH,bif v.Rd then v.Count else bif due v then v.Count else v.Count,bif v.Rd then v.Time else bif due v then v.Time else v.Time,bif v.Rd then v.Rc else bif due v then v.Rc else v.Rc,bif v.Rd then true else bif due v then !v.Rc else false⟩:nA)
theorem nst (Y:nA→α) (v:nA):nek Y v=Y (nm4 v):=by
 unfold nek nm4 Vz
 obtain⟨a,b,c,d,e,f⟩:=v
 cases f
 ·cases due (⟨a,b,c,d,e,false⟩:nA)
  ·rfl
  ·cases e<;>rfl
 ·cases hd:(bif due (⟨a,b,c,d,e,true⟩:nA) then !(⟨a,b,c,d,e,true⟩:nA).Rc else false)<;>rfl
structure qO where
 Op:Int
 Flags:Int
 Len:Int
 At:Int
 nO:Int
 uz:Int
def qO.enc (x:qO):List DC:=[.int x.Op,.int x.Flags,.int x.Len,.int x.At,.int x.nO,.int x.uz]
def qO.nc (r:List DC) (o:Nat):qO:=⟨rI r (o+0),rI r (o+1),rI r (o+2),rI r (o+3),rI r (o+4),rI r (o+5)⟩
def qO.ct:List CT:=[.i,.i,.i,.i,.i,.i]
theorem qO.eta {r:List DC} (h:kd qO.ct r):(qO.nc r 0).enc=r:=(show (qO.nc r 0).enc=tf qO.ct r 0 from by kernel_rfl).trans (rL h)
theorem qO.nw {r:List CT} {ds:List DC} (h:kd (qO.ct++r) ds):∃(x:qO) (bc:List DC),ds=x.enc++bc∧kd qO.ct x.enc∧kd r bc:=by
 obtain⟨d1,d2,rfl,h1,h2⟩:=qB h
 exact⟨qO.nc d1 0,d2,by rw[qO.eta h1],by rw[qO.eta h1];exact h1,h2⟩
theorem qO.nAb {x:qO} (h:kd qO.ct x.enc):G5 .i (.int x.Flags):=n_ 1 h rfl rfl
theorem qO.nA1 {x:qO} (h:kd qO.ct x.enc):G5 .i (.int x.Len):=n_ 2 h rfl rfl
theorem qO.nm0 {x:qO} (h:kd qO.ct x.enc):G5 .i (.int x.nO):=n_ 4 h rfl rfl
theorem qO.nwO {x:qO} (h:kd qO.ct x.enc):G5 .i (.int x.uz):=n_ 5 h rfl rfl
def nk0 (Y:Int→α) (s:Bytes) (at_:Int):α:=
 bif bif decide (at_<0) then true else decide (nL ((len s) - 2)<at_) then Y (-1)
 else bif Ed (Ed true (idx at_ s)) (idx (nL (at_+1)) s) then
   Y (bits .or .i64 (Zb .i64 (nL (wV s at_)) 8) (nL (wV s (nL (at_+1)))))
  else kf
theorem nw7 (Y:Int→α) (s:Bytes) (at_:Int) (vN:G5 .str (.str s)):nk0 kf Y s at_=Y (pg s at_):=by
 have hl:=vI vN
 have hl0:0≤len s:=by simp [len]
 have GJ:len s≤9223372036854775807:=by simp only[len];omega
 unfold nk0 pg
 have nAP:(bif decide (at_<0) then true else decide (nL (len s - 2)<at_))= !(rz s at_ 2):=by
  have h1:=within_iff (s:=s) (at_:=at_) (n:=2) hl
  rw[nF (n:=len s - 2) (by omega) (by omega)]
  cases hw:rz s at_ 2
  ·by_cases h0:at_<0
   ·simp [h0]
   ·by_cases h2:len s - 2<at_
    ·simp [h0,h2]
    ·rw[h1.2 (by omega)] at hw
     cases hw
  ·have:=h1.1 hw
   simp [show ¬at_<0 by omega,show ¬len s - 2<at_ by omega]
 rw[nAP]
 cases hw:rz s at_ 2
 ·rfl
 ·have hh:=(within_iff hl).1 hw
  have w1:nL (at_+1)=at_+1:=nF (by omega) (by omega)
  have dZ:∀j:Int,0≤j→j<len s→idx j s=true:=by
   intro j h1 h2
   simp only[len] at h2
   simp only[idx,aw,eX]
   omega
  have b0:=sL s at_
  have c0:=tY s at_
  have b1:=sL s (at_+1)
  have c1:=tY s (at_+1)
  simp only[w1,dZ at_ (by omega) (by omega),dZ (at_+1) (by omega) (by omega),ng,aj,aQ,Bool.not_true]
  rw[nF (n:=wV s at_) (by omega) (by omega),nF (n:=wV s (at_+1)) (by omega) (by omega),nz5,nF (n:=wV s at_*256) (by omega) (by omega),Yl 8 (y:=wV s (at_+1)) (by omega) (by omega) (by omega) (by omega) (by omega) (by omega)]
def nzN (s:Bytes):Int:=bif (pg s 12)==33024 then 18 else 14
theorem ny_ {e:rl} (h:PF e=true):0≤e.Dst∧e.Dst≤281474976710655∧0≤e.Src∧e.Src≤281474976710655∧46≤e.Body.length:=by
 unfold PF PX at h
 cases h1:nf e.Dst 0 281474976710655
 ·rw[h1] at h;cases h
 cases h2:nf e.Src 0 281474976710655
 ·rw[h1,h2] at h;cases h
 have a:=nZ.1 h1
 have b:=nZ.1 h2
 cases hb:nf (len e.Body) 46 400
 ·rw[hb] at h
  revert h
  cases nf e.Dst 0 281474976710655<;>cases nf e.Src 0 281474976710655<;>cases nf e.rO (-1) 4095<;>cases nf e.SJ 1536 65535<;>cases e.SJ != 33024<;>simp
 ·have:=nZ.1 hb
  simp only[len] at this
  omega
def nhL (Y:Bool→α) (x:qO):α:=
 Y (bif nf x.Op 0 3 then bif nf x.Flags 0 3 then bif nf x.Len 0 65535 then bif nf x.nO 0 65535 then bif nf x.uz 0 65535 then nf x.At 0 4294967295 else false else false else false else false else false)
def nwR (x:qO):Bool:=nhL id x
theorem nhK (Y:Bool→α) (x:qO):nhL Y x=Y (nwR x):=by
 rfl
def Vk (Y:Int→α) (r:n8) (count:Int):α:=
 bif bif !(ud r) then true else decide (count<0) then Y (-1)
 else bif Ed true (!(r.nO==0)) then
   Y (nL (r.qk+(nL ((Int.tmod count r.nO)*16))))
  else kf
def ue (r:n8) (count:Int):Int:=bif bif !(ud r) then true else decide (count<0) then -1 else nL (r.qk+nL (Int.tmod count r.nO*16))
theorem njp (Y:Int→α) (r:n8) (count:Int):Vk kf Y r count=Y (ue r count):=by
 unfold Vk ue
 refine oA (fun _=>rfl) (fun hg=> ?_)
 have hr:ud r=true:=by
  revert hg
  cases ud r<;>simp
 have hs:=SI hr
 have hz:(!(r.nO==0))=true:=by simp;omega
 simp only[hz,ng,aj]
def WO (Y:Int→α) (r:n8) (count:Int):α:=
 bif bif !(ud r) then true else decide (count<0) then Y (-1)
 else bif Ed true (!(r.nO==0)) then
   Y (nL (r.qk+(nL (16*(Int.tmod count r.nO)))))
  else kf
theorem nkw (Y:Int→α) (r:n8) (count:Int):WO kf Y r count=Y (ue r count):=by
 unfold WO ue
 refine oA (fun _=>rfl) (fun hg=> ?_)
 have hr:ud r=true:=by
  revert hg
  cases ud r<;>simp
 have hs:=SI hr
 have hz:(!(r.nO==0))=true:=by simp;omega
 simp only[hz,ng,aj,Int.mul_comm 16]
def Xl (Y:Bytes→α) (x:qO):α:=
 let z0:Bytes:=(toStr ([[.int (IntKind.wrap .u8 x.Op)],[.int (IntKind.wrap .u8 x.Flags)]]))++(nT x.Len)
 let z1:Bytes:=z0++(ph x.At)
 let z2:Bytes:=z1++(nT x.nO)
 let z3:Bytes:=z2++(nT x.uz)
 bif !(nwR x) then Y []
 else bif Ed (Ed (Ed (Ed (Ed true (oz (toStr ([[.int (IntKind.wrap .u8 x.Op)],[.int (IntKind.wrap .u8 x.Flags)]])) (nT x.Len))) (oz z0 (ph x.At))) (oz z1 (nT x.nO))) (oz z2 (nT x.uz))) (oz z3 (ph 0)) then
   Y (z3++(ph 0))
  else kf
def UX (x:qO):Bytes:=bif !(nwR x) then [] else toStr ([[.int (IntKind.wrap .u8 x.Op)],[.int (IntKind.wrap .u8 x.Flags)]])++nT x.Len++ph x.At++nT x.nO++nT x.uz++ph 0
theorem Xk (Y:Bytes→α) (x:qO):Xl kf Y x=Y (UX x):=by
 have a:=oa x.Len
 have b:=qv x.At
 have c:=oa x.nO
 have d:=oa x.uz
 have e:=qv 0
 unfold Xl UX
 refine oA (fun _=>rfl) (fun hg=> ?_)
 refine nY (by simp only[gy,oz,ss,fv,qP,dx,List.length_nil,eX,true_and,and_true];omega) rfl
theorem nwN:∀(m a:Nat) (s:Bytes) (l:Rows),(npq m a s l).length=l.length
 | 0,_,_,_=>rfl
 | m+1,a,s,l=>by
  unfold npq
  cases decide (0<s.length)
  ·rfl
  ·rw[aj,nwN m]
   simp [Sa]
theorem nm3 (m:na) (a:Int) (s:Bytes):(qE m a s).1.nP.length=m.nP.length:=by
 unfold qE
 cases !(within m a (len s))
 ·exact nwN _ _ _ _
 ·rfl
theorem nwG:∀(r:Rows) (s:Bytes) (l:Rows),(nwf r s l).length=l.length
 | [],_,_=>rfl
 | r::rs,s,l=>by
  unfold nwf
  rw[nwG rs,nm3]
theorem nf1 (l:Rows) (m:na) (d a:Int) (s:Bytes) (w:Bool):(put l m d a s w).1.nP.length=m.nP.length:=by
 unfold put
 cases !(sC l m d a (len s) w).2
 ·exact nwG _ _ _
 ·rfl
theorem nAW {l:Rows} {m:na} {d a:Int} {s:Bytes} {w:Bool} (h:(put l m d a s w).2=false):(put l m d a s w).1=m:=by
 unfold put at h ⊢
 cases hr:(sC l m d a (len s) w).2
 ·rfl
 ·rw[hr] at h;cases h
theorem S5 {b:Bool} (h:(!b)=false):b=true:=by cases b<;>simp_all
theorem rm {b:Bool} (h:b=true):Ed true b=true:=by rw[h];rfl
theorem npi {p:nj} :(oH p).2=qH p:=by
 unfold oH
 cases hs:qH p
 ·rfl
 have he:PF (YH p)=true:=by
  have hb:=nxE (nxB (⟨p.Tos,p.Id,p.Ttl,p.pG.Kind,p.o_,p.qm,(rN p.o_ p.qm p.pG).1⟩:wT)) (show 46≤400 by omega)
  have h1:nf p.sK 0 281474976710655=true∧nf p.sW 0 281474976710655=true∧nf p.rO (-1) 4095=true:=by
   unfold qH xo at hs
   revert hs
   cases nf p.sK 0 281474976710655<;>cases nf p.sW 0 281474976710655<;>cases nf p.rO (-1) 4095<;>simp
  have h2:nf (len (YH p).Body) 46 400=true:=nZ.2 ⟨by simp only[len,YH];omega,by simp only[len,YH];omega⟩
  have h3:nf (YH p).SJ 1536 65535=true:=by rfl
  have h4:((YH p).SJ != 33024)=true:=by rfl
  unfold PF PX
  simp only[show nf (YH p).Dst 0 281474976710655=true from h1.1,show nf (YH p).Src 0 281474976710655=true from h1.2.1,show nf (YH p).rO (-1) 4095=true from h1.2.2,h2,h3,h4,aj,id]
 simp only[Bool.not_true,aQ]
 unfold zk
 rw[he]
 rfl
def Xi (Y:qO→Bool→α) (s:Bytes):α:=
 let z0:qO:=(⟨0,0,0,0,0,0⟩:qO)
 let z1:qO:=(⟨nL (wV s 0),nL (wV s 1),pg s 2,wS s 4,pg s 8,pg s 10⟩:qO)
 bif (len s) != 16 then Y z0 false
 else bif Ed (Ed true (idx 0 s)) (idx 1 s) then
   bif !((UX z1)==s) then Y z0 false
   else Y z1 true
  else kf
def descOf (s:Bytes):qO:=⟨nL (wV s 0),nL (wV s 1),pg s 2,wS s 4,pg s 8,pg s 10⟩
def oM (s:Bytes):qO×Bool:=bif (len s) != 16 then (⟨0,0,0,0,0,0⟩,false) else bif !((UX (descOf s))==s) then (⟨0,0,0,0,0,0⟩,false) else (descOf s,true)
theorem Xg (Y:qO→Bool→α) (s:Bytes):Xi kf Y s=Y (oM s).1 (oM s).2:=by
 unfold Xi oM
 dsimp only
 refine oA (K:=fun r:qO×Bool=>Y r.1 r.2) (fun _=>rfl) (fun hg=> ?_)
 have h16:len s=16:=by simpa using hg
 have dZ:∀j:Int,0≤j→j<16→idx j s=true:=by
  intro j h1 h2
  simp only[len] at h16
  simp only[idx,aw,eX]
  omega
 refine nY (by rw[dZ 0 (by omega) (by omega),dZ 1 (by omega) (by omega)];rfl) ?_
 exact J9 (K:=fun r:qO×Bool=>Y r.1 r.2) rfl rfl
def ncp (Y:Bytes→n8→Bool→α) (Z:Rows) (m:na) (O:Int) (r:n8):α:=
 let z0:Bytes×Bool:=yE Z m O (ue r r.Head) 16
 bif bif !(ud r) then true else (zo r)==0 then Y [] r false
 else bif !z0.2 then Y [] r false
 else bif Ed true (!((nL (2*r.nO))==0)) then
   Y z0.1 (⟨r.qk,r.nO,Int.tmod (nL (r.Head+1)) (nL (2*r.nO)),r.wI⟩:n8) true
  else kf
def qp (Z:Rows) (m:na) (O:Int) (r:n8):Bytes×n8×Bool:=
 bif bif !(ud r) then true else (zo r)==0 then ([],r,false)
 else bif !(yE Z m O (ue r r.Head) 16).2 then ([],r,false)
 else ((yE Z m O (ue r r.Head) 16).1,⟨r.qk,r.nO,Int.tmod (nL (r.Head+1)) (nL (2*r.nO)),r.wI⟩,true)
theorem ncn (Y:Bytes→n8→Bool→α) (Z:Rows) (m:na) (O:Int) (r:n8):ncp kf Y Z m O r=Y (qp Z m O r).1 (qp Z m O r).2.1 (qp Z m O r).2.2:=by
 unfold ncp qp
 dsimp only
 refine oA (K:=fun r:Bytes×n8×Bool=>Y r.1 r.2.1 r.2.2) (fun _=>rfl) (fun hg=> ?_)
 refine oA (K:=fun r:Bytes×n8×Bool=>Y r.1 r.2.1 r.2.2) (fun _=>rfl) (fun _=> ?_)
 have hr:ud r=true:=by
  revert hg
  cases ud r<;>simp
 have hs:=SI hr
 have hz:(!((nL (2*r.nO))==0))=true:=by
  rw[nF (by omega) (by omega)]
  simp;omega
 refine nY (rm hz) rfl
def nck (Y:rl→Bool→α) (s:Bytes):α:=
 let z0:rl:=(⟨0,0,0,0,[]⟩:rl)
 let z1:Int:=bits .or .i64 (Zb .i64 (pg s 0) 32) (wS s 2)
 let z2:Int:=bits .or .i64 (Zb .i64 (pg s 6) 32) (wS s 8)
 let z3:rl:=(⟨z1,z2,pg s 14,pg s 16,zi s 18⟩:rl)
 let z4:rl:=(⟨z1,z2,(-1),pg s 12,zi s 14⟩:rl)
 bif decide (len s<14) then Y z0 false
 else bif Ed true (okL s 14) then
   bif bif (pg s 12)==33024 then decide (18≤len s) else false then
    bif Ed true (okL s 18) then
     bif !(PF z3) then Y z0 false
     else Y z3 true
    else kf
   else bif !(PF z4) then Y z0 false
   else Y z4 true
  else kf
theorem nyY (a:Int):Zb .i64 a 32=nL (a*4294967296):=rfl
theorem ngX (s:Bytes) (a:Int): -1≤pg s a∧pg s a≤65535:=by
 have b0:=sL s a
 have c0:=tY s a
 have b1:=sL s (a+1)
 have c1:=tY s (a+1)
 unfold pg
 cases !(rz s a 2)<;>simp only[aj,aQ]<;>omega
theorem ngW {s:Bytes} {a:Int} (h0:0≤a) (h:a+2≤len s) (hs:s.length≤9223372036854775807):0≤pg s a:=by
 have b0:=sL s a
 have b1:=sL s (a+1)
 unfold pg
 rw[(within_iff hs).2 ⟨h0,by omega,h⟩]
 simp only[Bool.not_true,aQ]
 omega
theorem ngY {s:Bytes} {a:Int} (h0:0≤a) (h:a+4≤len s):0≤wS s a:=by
 have b0:=sL s a
 have b1:=sL s (a+1)
 have b2:=sL s (a+2)
 have b3:=sL s (a+3)
 unfold wS
 rw[Lt (show ¬a<0 by omega),Lt (show ¬len s<a+4 by omega)]
 simp only[aQ]
 omega
theorem ngZ (s:Bytes) (a:Int): -1≤wS s a∧wS s a≤4294967295:=by
 have b0:=sL s a
 have c0:=tY s a
 have b1:=sL s (a+1)
 have c1:=tY s (a+1)
 have b2:=sL s (a+2)
 have c2:=tY s (a+2)
 have b3:=sL s (a+3)
 have c3:=tY s (a+3)
 unfold wS
 cases (bif decide (a<0) then true else decide (len s<a+4))<;>simp only[aj,aQ]<;>omega
def nyO (s:Bytes):rl:=⟨pg s 0*4294967296+wS s 2,pg s 6*4294967296+wS s 8,bif (pg s 12)==33024 then pg s 14 else -1,bif (pg s 12)==33024 then pg s 16 else pg s 12,s.drop (nzN s).toNat⟩
def su (s:Bytes):rl×Bool:=bif decide (len s<18) then (⟨0,0,0,0,[]⟩,false) else bif !(PF (nyO s)) then (⟨0,0,0,0,[]⟩,false) else (nyO s,true)
theorem nyj {e:rl} (h:PF e=true):46≤e.Body.length:=(ny_ h).2.2.2.2
theorem nqe (Y:rl→Bool→α) (s:Bytes) (vN:G5 .str (.str s)):nck kf Y s=Y (su s).1 (su s).2:=by
 have hl:=vI vN
 unfold nck su
 dsimp only
 by_cases h14:len s<14
 ·rw[Lu h14,Lu (show len s<18 by omega)]
  rfl
 rw[Lt h14,aQ]
 by_cases h18:len s<18
 ·have g1:okL s 14=true:=by simp only[len] at h14;simp only[okL,aw,eX];omega
  have g3:∀e:rl,e.Body=zi s 14→PF e=false:=by
   intro e he
   cases h:PF e
   ·rfl
   ·have:=nyj h
    rw[he] at this
    simp only[zi,List.take_length,List.length_drop] at this
    simp only[len] at h18 h14
    omega
  have g4:(bif (pg s 12)==33024 then decide (18≤len s) else false)=false:=by
   rw[Lt (show ¬18≤len s by omega)]
   cases (pg s 12)==33024<;>rfl
  rw[Lu h18,g4,g1]
  simp only[ng,aj,aQ]
  rw[g3 _ rfl]
  rfl
 have h18:18≤len s:=by omega
 rw[Lu h18,Lt (show ¬len s<18 by omega),aQ]
 have g1:okL s 14=true:=by simp only[len] at h18;simp only[okL,aw,eX];omega
 have g2:okL s 18=true:=by simp only[len] at h18;simp only[okL,aw,eX];omega
 have e1:zi s 14=s.drop 14:=by simp [zi]
 have e2:zi s 18=s.drop 18:=by simp [zi]
 have r0:=ngX s 0
 have r1:=ngX s 6
 have p0:=ngW (s:=s) (a:=0) (by omega) (by omega) hl
 have p1:=ngW (s:=s) (a:=6) (by omega) (by omega) hl
 have q0:=ngZ s 2
 have q1:=ngZ s 8
 have t0:=ngY (s:=s) (a:=2) (by omega) (by omega)
 have t1:=ngY (s:=s) (a:=8) (by omega) (by omega)
 rw[nyY,nyY,nF (n:=pg s 0*4294967296) (by omega) (by omega),nF (n:=pg s 6*4294967296) (by omega) (by omega)]
 rw[Yl 32 (x:=pg s 0*4294967296) (by omega) (by omega) (by omega) (by omega) (by omega) (by omega),Yl 32 (x:=pg s 6*4294967296) (by omega) (by omega) (by omega) (by omega) (by omega) (by omega)]
 rw[show (bif (pg s 12)==33024 then true else false)=((pg s 12)==33024) by cases (pg s 12)==33024<;>rfl]
 simp only[g1,g2,e1,e2,ng,aj]
 unfold nyO nzN
 cases (pg s 12)==33024
 ·simp only[aQ]
  exact J9 (K:=fun z:rl×Bool=>Y z.1 z.2) rfl rfl
 ·simp only[aj]
  exact J9 (K:=fun z:rl×Bool=>Y z.1 z.2) rfl rfl
def ndW (Y:rl→Bool→α) (s:Bytes):α:=
 let z0:rl:=(⟨0,0,0,0,[]⟩:rl)
 let z1:Int:=nL ((Zb .i64 (pg s 0) 32)+(wS s 2))
 let z2:Int:=nL ((Zb .i64 (pg s 6) 32)+(wS s 8))
 let z3:rl:=(⟨z1,z2,pg s 14,pg s 16,zi s 18⟩:rl)
 let z4:rl:=(⟨z1,z2,(-1),pg s 12,zi s 14⟩:rl)
 bif decide (len s<18) then Y z0 false
 else bif Ed true (okL s 14) then
   bif (pg s 12)==33024 then
    bif Ed true (okL s 18) then
     bif !(PF z3) then Y z0 false
     else Y z3 true
    else kf
   else bif !(PF z4) then Y z0 false
   else Y z4 true
  else kf
theorem nr6 (Y:rl→Bool→α) (s:Bytes) (vN:G5 .str (.str s)):ndW kf Y s=Y (su s).1 (su s).2:=by
 have hl:=vI vN
 unfold ndW su
 dsimp only
 refine oA (K:=fun z:rl×Bool=>Y z.1 z.2) (fun _=>rfl) (fun hg=> ?_)
 have h18:18≤len s:=by
  have:=of_decide_eq_false hg
  omega
 have g1:okL s 14=true:=by simp only[len] at h18;simp only[okL,aw,eX];omega
 have g2:okL s 18=true:=by simp only[len] at h18;simp only[okL,aw,eX];omega
 have e1:zi s 14=s.drop 14:=by simp [zi]
 have e2:zi s 18=s.drop 18:=by simp [zi]
 have r0:=ngX s 0
 have r1:=ngX s 6
 have p0:=ngW (s:=s) (a:=0) (by omega) (by omega) hl
 have p1:=ngW (s:=s) (a:=6) (by omega) (by omega) hl
 have q0:=ngZ s 2
 have q1:=ngZ s 8
 have t0:=ngY (s:=s) (a:=2) (by omega) (by omega)
 have t1:=ngY (s:=s) (a:=8) (by omega) (by omega)
 rw[nyY,nyY,nF (n:=pg s 0*4294967296) (by omega) (by omega),nF (n:=pg s 6*4294967296) (by omega) (by omega)]
 rw[nF (n:=pg s 0*4294967296+wS s 2) (by omega) (by omega),nF (n:=pg s 6*4294967296+wS s 8) (by omega) (by omega)]
 simp only[g1,g2,e1,e2,ng,aj]
 unfold nyO nzN
 cases (pg s 12)==33024
 ·simp only[aQ]
  exact J9 (K:=fun z:rl×Bool=>Y z.1 z.2) rfl rfl
 ·simp only[aj]
  exact J9 (K:=fun z:rl×Bool=>Y z.1 z.2) rfl rfl
def neP (Y:wT→Bool→α) (s:Bytes):α:=
 let z0:wT:=(⟨0,0,0,0,0,0,[]⟩:wT)
 let z1:wT:=(⟨nL (wV s 1),pg s 4,nL (wV s 8),nL (wV s 9),wS s 12,wS s 16,npQ s 20 (pg s 2)⟩:wT)
 let z2:Bytes×Bool:=Oi z1
 let z3:Bool:= !z2.2
 bif bif decide (len s<20) then true else bif decide (pg s 2<20) then true else decide (len s<pg s 2) then Y z0 false
 else bif Ed (Ed (Ed (Ed true (idx 1 s)) (idx 8 s)) (idx 9 s)) (nxg s 20 (pg s 2)) then
   bif L0 z3 true (Ed true (okH s (pg s 2))) then
    bif bif z3 then true else !(z2.1==(Pr s (pg s 2))) then Y z0 false
    else Y z1 true
   else kf
  else kf
def nAT (s:Bytes):wT:=⟨nL (wV s 1),pg s 4,nL (wV s 8),nL (wV s 9),wS s 12,wS s 16,npQ s 20 (pg s 2)⟩
def xB (s:Bytes):wT×Bool:=bif bif decide (len s<20) then true else bif decide (pg s 2<20) then true else decide (len s<pg s 2) then (⟨0,0,0,0,0,0,[]⟩,false)
 else bif bif !(Oi (nAT s)).2 then true else !((Oi (nAT s)).1==(Pr s (pg s 2))) then (⟨0,0,0,0,0,0,[]⟩,false) else (nAT s,true)
theorem neO (Y:wT→Bool→α) (s:Bytes) (vN:G5 .str (.str s)):neP kf Y s=Y (xB s).1 (xB s).2:=by
 have hl:=vI vN
 unfold neP xB
 dsimp only
 refine oA (K:=fun z:wT×Bool=>Y z.1 z.2) (fun _=>rfl) (fun hg=> ?_)
 have hh:20≤len s∧20≤pg s 2∧pg s 2≤len s:=by
  by_cases h1:len s<20
  ·rw[Lu h1] at hg;cases hg
  by_cases h2:pg s 2<20
  ·rw[Lt h1,Lu h2] at hg;cases hg
  by_cases h3:len s<pg s 2
  ·rw[Lt h1,Lt h2,Lu h3] at hg;cases hg
  omega
 obtain⟨h1,h2,h3⟩:=hh
 have dZ:∀j:Int,0≤j→j<20→idx j s=true:=by
  intro j i1 i2
  simp only[len] at h1
  simp only[idx,aw,eX]
  omega
 have g1:nxg s 20 (pg s 2)=true:=by simp only[len] at h3;simp only[nxg,aw,eX];omega
 have g2:okH s (pg s 2)=true:=by simp only[len] at h3;simp only[okH,aw,eX];omega
 refine nY (by rw[dZ 1 (by omega) (by omega),dZ 8 (by omega) (by omega),dZ 9 (by omega) (by omega),g1];rfl) ?_
 refine nY (xt (fun _=>rfl) (fun _=>rm g2)) ?_
 exact J9 (K:=fun z:wT×Bool=>Y z.1 z.2) rfl rfl
def Ua (Y:nz→Bool→α) (src dst kind:Int) (s:Bytes):α:=
 let z0:nz:=(⟨kind,pg s 0,pg s 2,wS s 4,wS s 8,nL (wV s 13),pg s 14,zi s 20⟩:nz)
 let z1:Bytes×Bool:=rN src dst z0
 let z2:nz:=(⟨0,0,0,0,0,0,0,[]⟩:nz)
 let z3:nz:=(⟨kind,pg s 0,pg s 2,0,0,0,0,zi s 8⟩:nz)
 let z4:Bytes×Bool:=rN src dst z3
 bif bif kind==6 then decide (20≤len s) else false then
  bif Ed true (idx 13 s) then
   bif Ed true (okL s 20) then
    bif bif !z1.2 then true else !(z1.1==s) then Y z2 false
    else Y z0 true
   else kf
  else kf
 else bif bif kind==17 then decide (8≤len s) else false then
  bif Ed true (okL s 8) then
   bif bif !z4.2 then true else !(z4.1==s) then Y z2 false
   else Y z3 true
  else kf
 else Y z2 false
def nBh (kind:Int) (s:Bytes):nz:=⟨kind,pg s 0,pg s 2,wS s 4,wS s 8,nL (wV s 13),pg s 14,zi s 20⟩
def nBi (kind:Int) (s:Bytes):nz:=⟨kind,pg s 0,pg s 2,0,0,0,0,zi s 8⟩
def nz4 (src dst:Int) (s:Bytes) (q:nz):nz×Bool:=bif bif !(rN src dst q).2 then true else !((rN src dst q).1==s) then (⟨0,0,0,0,0,0,0,[]⟩,false) else (q,true)
def zI (src dst kind:Int) (s:Bytes):nz×Bool:=bif bif kind==6 then decide (20≤len s) else false then nz4 src dst s (nBh kind s)
 else bif bif kind==17 then decide (8≤len s) else false then nz4 src dst s (nBi kind s) else (⟨0,0,0,0,0,0,0,[]⟩,false)
theorem T_ (Y:nz→Bool→α) (src dst kind:Int) (s:Bytes) (vN:G5 .str (.str s)):Ua kf Y src dst kind s=Y (zI src dst kind s).1 (zI src dst kind s).2:=by
 have hl:=vI vN
 unfold Ua zI
 dsimp only
 refine oA (K:=fun z:nz×Bool=>Y z.1 z.2) (fun hg=> ?_) (fun _=> ?_)
 ·have h20:20≤len s:=by
   revert hg
   cases kind==6
   ·intro h;cases h
   ·exact of_decide_eq_true
  have g1:idx 13 s=true:=by simp only[len] at h20;simp only[idx,aw,eX];omega
  have g2:okL s 20=true:=by simp only[len] at h20;simp only[okL,aw,eX];omega
  refine nY (rm g1) (nY (rm g2) ?_)
  exact J9 (K:=fun z:nz×Bool=>Y z.1 z.2) rfl rfl
 ·refine oA (K:=fun z:nz×Bool=>Y z.1 z.2) (fun hg=> ?_) (fun _=>rfl)
  have h8:8≤len s:=by
   revert hg
   cases kind==17
   ·intro h;cases h
   ·exact of_decide_eq_true
  have g2:okL s 8=true:=by simp only[len] at h8;simp only[okL,aw,eX];omega
  refine nY (rm g2) ?_
  exact J9 (K:=fun z:nz×Bool=>Y z.1 z.2) rfl rfl
def ZF (Y:nj→Int→α) (s:Bytes):α:=
 let z0:nj:=(⟨0,0,0,0,0,0,0,0,(⟨0,0,0,0,0,0,0,[]⟩:nz)⟩:nj)
 let z1:nz×Bool:=zI (((xB (((su s).1).Body)).1).Src) (((xB (((su s).1).Body)).1).Dst) (((xB (((su s).1).Body)).1).nsH) (((xB (((su s).1).Body)).1).Body)
 let z2:nj:=(⟨((su s).1).Dst,((su s).1).Src,((su s).1).rO,((xB (((su s).1).Body)).1).Tos,((xB (((su s).1).Body)).1).Id,((xB (((su s).1).Body)).1).Ttl,((xB (((su s).1).Body)).1).Src,((xB (((su s).1).Body)).1).Dst,z1.1⟩:nj)
 bif bif !((su s).2) then true else (((su s).1).SJ) != 2048 then Y z0 2
 else bif !((xB (((su s).1).Body)).2) then Y z0 3
 else bif !z1.2 then Y z0 4
 else bif !(qH z2) then Y z0 5
 else Y z2 0
def vO (s:Bytes):nj×Int:=ZF (fun r0 r1=>(r0,r1)) s
theorem ZE (Y:nj→Int→α) (s:Bytes):ZF Y s=Y (vO s).1 (vO s).2:=by
 exact J9 (K:=fun r:nj×Int=>Y r.1 r.2) rfl (J9 (K:=fun r:nj×Int=>Y r.1 r.2) rfl (J9 (K:=fun r:nj×Int=>Y r.1 r.2) rfl (J9 (K:=fun r:nj×Int=>Y r.1 r.2) rfl rfl)))
def ne4 (Y:Bytes→α) (s:Bytes):α:=
 let z0:Bytes:=toStr ([[.int (IntKind.wrap .u8 (nen s))],[.int (IntKind.wrap .u8 (wE .i64 (nen s) 8))],[.int (IntKind.wrap .u8 (wE .i64 (nen s) 16))],[.int (IntKind.wrap .u8 (wE .i64 (nen s) 24))]])
 bif Ed true (oz s z0) then
  Y (s++z0)
 else kf
def nkR (s:Bytes):Bytes:=s++toStr ([[.int (IntKind.wrap .u8 (nen s))],[.int (IntKind.wrap .u8 (wE .i64 (nen s) 8))],[.int (IntKind.wrap .u8 (wE .i64 (nen s) 16))],[.int (IntKind.wrap .u8 (wE .i64 (nen s) 24))]])
theorem ne3 (Y:Bytes→α) (s:Bytes) (aP:ss s=true):ne4 kf Y s=Y (nkR s):=by
 have hs:s.length≤4294967296:=of_decide_eq_true aP
 unfold ne4
 exact nY (rm (U2 (by rw[qP];simp only[dx,List.length_nil];omega))) rfl
structure nI where
 uz:Int
 Len:Int
 nO:Int
 Count:Int
 ny6:Int
def nI.enc (x:nI):List DC:=[.int x.uz,.int x.Len,.int x.nO,.int x.Count,.int x.ny6]
def nI.nc (r:List DC) (o:Nat):nI:=⟨rI r (o+0),rI r (o+1),rI r (o+2),rI r (o+3),rI r (o+4)⟩
def nI.ct:List CT:=[.i,.i,.i,.i,.i]
theorem nI.eta {r:List DC} (h:kd nI.ct r):(nI.nc r 0).enc=r:=(show (nI.nc r 0).enc=tf nI.ct r 0 from by kernel_rfl).trans (rL h)
theorem nI.nw {r:List CT} {ds:List DC} (h:kd (nI.ct++r) ds):∃(x:nI) (bc:List DC),ds=x.enc++bc∧kd nI.ct x.enc∧kd r bc:=by
 obtain⟨d1,d2,rfl,h1,h2⟩:=qB h
 exact⟨nI.nc d1 0,d2,by rw[nI.eta h1],by rw[nI.eta h1];exact h1,h2⟩
theorem nI.nwO {x:nI} (h:kd nI.ct x.enc):G5 .i (.int x.uz):=n_ 0 h rfl rfl
theorem nI.nA1 {x:nI} (h:kd nI.ct x.enc):G5 .i (.int x.Len):=n_ 1 h rfl rfl
theorem nI.nm0 {x:nI} (h:kd nI.ct x.enc):G5 .i (.int x.nO):=n_ 2 h rfl rfl
theorem nI.nmZ {x:nI} (h:kd nI.ct x.enc):G5 .i (.int x.Count):=n_ 3 h rfl rfl
theorem xA {q:nd} (h:qD q=true):vw q.nO=true∧2≤q.nO∧q.nO≤16∧0≤q.Count∧q.Count<2*q.nO∧0≤q.qk∧q.qk≤130944:=by
 unfold qD Qg at h
 simp only[id] at h
 cases hb:nf q.qk 0 130944
 case false=>rw[hb] at h;cases h
 cases hs:vw q.nO
 case false=>rw[hb,hs] at h;cases h
 rw[hb,hs] at h
 have h4:2≤q.nO∧q.nO≤16:=by rcases xu hs with h | h | h | h<;>omega
 rw[nF (n:=2*q.nO) (by omega) (by omega),nF (n:=2*q.nO - 1) (by omega) (by omega)] at h
 have h5:=nZ.1 (show nf q.Count 0 (2*q.nO - 1)=true from h)
 have h6:=nZ.1 hb
 exact⟨rfl,by omega,by omega,by omega,by omega,h6.1,h6.2⟩
theorem nz0 {q:nd} (h:qD q=true):qD ⟨q.qk,q.nO,Int.tmod (nL (q.Count+1)) (nL (2*q.nO))⟩=true:=by
 obtain⟨f1,f2,f3,f4,f5,f6,f7⟩:=xA h
 have e:Int.tmod (nL (q.Count+1)) (nL (2*q.nO))=(q.Count+1) % (2*q.nO):=by
  rw[nF (n:=q.Count+1) (by omega) (by omega),nF (n:=2*q.nO) (by omega) (by omega)]
  exact Int.tmod_eq_emod_of_nonneg (by omega)
 have p1:=Int.emod_nonneg (q.Count+1) (show 2*q.nO≠0 by omega)
 have p2:=Int.emod_lt_of_pos (q.Count+1) (show 0<2*q.nO by omega)
 rw[e]
 unfold qD Qg
 simp only[id]
 rw[nF (n:=2*q.nO) (by omega) (by omega),nF (n:=2*q.nO - 1) (by omega) (by omega),f1,show nf q.qk 0 130944=true from nZ.2 ⟨f6,f7⟩,show nf ((q.Count+1) % (2*q.nO)) 0 (2*q.nO - 1)=true from nZ.2 ⟨p1,by omega⟩]
 rfl
theorem nmx {q:nh} (h:yi q=true):qD q.Device=true∧qD q.Driver=true∧ud q.Ring=true∧(q.sV=true→qH q.ql.nM=true):=by
 unfold yi neZ at h
 cases h1:ud q.Ring
 case false=>rw[h1] at h;cases h
 cases h2:qD q.Device
 case false=>rw[h1,h2] at h;cases h
 cases h3:qD q.Driver
 case false=>rw[h1,h2,h3] at h;cases h
 refine⟨rfl,rfl,rfl,fun hh=> ?_⟩
 rw[h1,h2,h3,hh] at h
 cases hs:qH q.ql.nM
 ·rw[hs] at h
  revert h
  cases (q.Device.qk != q.Driver.qk)<;>cases (q.Device.nO != q.Driver.nO)<;>cases nf q.vJ 0 1000000000000<;>simp
 ·rfl
def T7 (Y:Bool→α) (x:nI):α:=
 Y (bif nf x.uz 0 65535 then bif nf x.Len 0 65535 then bif nf x.nO 0 65535 then bif nf x.Count 0 65535 then nf x.ny6 0 4294967295 else false else false else false else false)
def uP (x:nI):Bool:=T7 id x
theorem T5 (Y:Bool→α) (x:nI):T7 Y x=Y (uP x):=by
 rfl
def Px (Y:Bytes→α) (x:nI) (phase:Int):α:=
 let z0:Bytes:=(nT x.uz)++(nT x.Len)
 let z1:Bytes:=z0++(nT x.nO)
 let z2:Bytes:=z1++(nT x.Count)
 let z3:Bytes:=z2++(ph x.ny6)
 bif bif !(uP x) then true else !(nf phase 0 1) then Y []
 else bif Ed (Ed (Ed (Ed (Ed true (oz (nT x.uz) (nT x.Len))) (oz z0 (nT x.nO))) (oz z1 (nT x.Count))) (oz z2 (ph x.ny6))) (oz z3 (ph phase)) then
   Y (z3++(ph phase))
  else kf
def qy (x:nI) (phase:Int):Bytes:=bif bif !(uP x) then true else !(nf phase 0 1) then [] else nT x.uz++nT x.Len++nT x.nO++nT x.Count++ph x.ny6++ph phase
theorem Pw (Y:Bytes→α) (x:nI) (phase:Int):Px kf Y x phase=Y (qy x phase):=by
 have a:=oa x.uz
 have b:=oa x.Len
 have c:=oa x.nO
 have d:=oa x.Count
 have e:=qv x.ny6
 have f:=qv phase
 unfold Px qy
 refine oA (fun _=>rfl) (fun hg=> ?_)
 refine nY (by simp only[gy,oz,ss,fv,qP,dx,List.length_nil,eX,true_and,and_true];omega) rfl
def nhN (Y:nG→α) (p:nj):α:=
 Y (⟨p.pG.Kind,p.o_,p.qm,p.pG.om,p.pG.n9⟩:nG)
def zl (p:nj):nG:=nhN id p
theorem nhM (Y:nG→α) (p:nj):nhN Y p=Y (zl p):=by
 rfl
def Zu (Y:Bytes→α) (f:nG):α:=
 let z0:Bytes:=(ph f.o_)++(ph f.qm)
 let z1:Bytes:=z0++(nT f.om)
 bif Ed (Ed (Ed true (oz (ph f.o_) (ph f.qm))) (oz z0 (nT f.om))) (oz z1 (nT f.n9)) then
  Y (z1++(nT f.n9))
 else kf
def nm2 (f:nG):Bytes:=ph f.o_++ph f.qm++nT f.om++nT f.n9
theorem Zt (Y:Bytes→α) (f:nG):Zu kf Y f=Y (nm2 f):=by
 have a:=qv f.o_
 have b:=qv f.qm
 have c:=oa f.om
 have d:=oa f.n9
 unfold Zu
 refine nY (by simp only[gy,oz,ss,fv,qP,dx,List.length_nil,eX,true_and,and_true];omega) rfl
def Tj (Y:nA→α) (v:nA):α:=
 bif !(tU v) then Y v
 else Y (nm4 (⟨v.zn,v.PH,wD (nL (v.Count+1)) 1000000,v.Time,v.Rc,v.Rd⟩:nA))
def zj (v:nA):nA:=Tj id v
theorem npV (Y:nA→α) (v:nA):Tj Y v=Y (zj v):=by
 exact J9 rfl rfl
def ndu (Y:nA→α) (v:nA):α:=
 bif !(tU v) then Y v
 else Y (nm4 (⟨v.zn,v.PH,wD 1000000 (nL (v.Count+1)),v.Time,v.Rc,v.Rd⟩:nA))
theorem nrM (Y:nA→α) (v:nA):ndu Y v=Y (zj v):=by
 unfold ndu zj Tj
 rw[nzg 1000000]
 exact J9 rfl rfl
def nh_ (Y:Int→α) (s:Bytes) (i:Int):α:=
 let z0:Int:=nL (7 - (Int.tmod i 8))
 bif Ed (Ed true (idx (nL (Int.tdiv i 8)) s)) (decide (0≤z0)) then
  Y (bits .and .i64 (nL (wE .u8 (wV s (nL (Int.tdiv i 8))) z0)) 1)
 else kf
theorem nwK {x n:Int} (h0:0≤x) (h1:x<256) (n0:0≤n) (n1:n≤7):wE .u8 x n=wE .i64 x n∧nL (wE .i64 x n)=wE .i64 x n:=by
 have e1:wE .u8 x n=Int.fdiv x (2 ^ n.toNat):=by
  unfold wE
  rw[show min n.toNat IntKind.u8.bits=n.toNat from Nat.min_eq_left (by show n.toNat≤8;omega)]
 have e2:wE .i64 x n=Int.fdiv x (2 ^ n.toNat):=by
  unfold wE
  rw[show min n.toNat IntKind.i64.bits=n.toNat from Nat.min_eq_left (by show n.toNat≤64;omega)]
 refine⟨e1.trans e2.symm, ?_⟩
 rw[e2]
 have hp:(0:Int)≤2 ^ n.toNat:=Int.pow_nonneg (by omega)
 rw[Int.fdiv_eq_ediv_of_nonneg x hp]
 exact nF (by have:=Int.ediv_nonneg h0 hp;omega) (by have:=Int.ediv_le_self (2 ^ n.toNat:Int) h0;omega)
def XL (s:Bytes) (i:Int):Bool:=decide (0≤i) && decide (i<8*len s)
def nbE (s:Bytes) (i:Int):Int:=bits .and .i64 (wE .i64 (wV s (Int.tdiv i 8)) (7 - Int.tmod i 8)) 1
theorem nxU (s:Bytes) (i:Int):0≤nbE s i∧nbE s i<2:=by
 unfold nbE
 rw[show bits .and .i64 (wE .i64 (wV s (Int.tdiv i 8)) (7 - Int.tmod i 8)) 1=wE .i64 (wV s (Int.tdiv i 8)) (7 - Int.tmod i 8) % 2 from nep 1 (by decide) _]
 omega
theorem nvx (Y:Int→α) (s:Bytes) (i:Int) (vN:G5 .str (.str s)) (h_i:G5 .i (.int i)) (aP:XL s i=true):nh_ kf Y s i=Y (nbE s i):=by
 have hl:=vI vN
 have hi:=wR h_i
 simp only[XL,aw,eX] at aP
 simp only[len] at aP
 have e1:Int.tdiv i 8=i / 8:=Int.tdiv_eq_ediv_of_nonneg (by omega)
 have e2:Int.tmod i 8=i % 8:=Int.tmod_eq_emod_of_nonneg (by omega)
 have b0:=sL s (i / 8)
 have c0:=tY s (i / 8)
 have w1:nL (i / 8)=i / 8:=nF (by omega) (by omega)
 have w2:nL (7 - i % 8)=7 - i % 8:=nF (by omega) (by omega)
 have w3:nL (wV s (i / 8))=wV s (i / 8):=nF (by omega) (by omega)
 obtain⟨s1,s2⟩:=nwK b0 c0 (n:=7 - i % 8) (by omega) (by omega)
 have g1:idx (i / 8) s=true:=by simp only[idx,aw,eX];omega
 have g2:decide (0≤7 - i % 8)=true:=Lu (by omega)
 unfold nh_ nbE
 simp only[e1,e2,w1,w2,w3,s1,s2,g1,g2,ng,aj]
def ni0 (Y:Int→α) (s:Bytes) (i:Int):α:=
 let z0:Int:=nL (7 - (Int.tmod i 8))
 bif Ed (Ed true (idx (nL (Int.tdiv i 8)) s)) (decide (0≤z0)) then
  Y (bits .and .i64 (wE .i64 (nL (wV s (nL (Int.tdiv i 8)))) z0) 1)
 else kf
theorem nws (Y:Int→α) (s:Bytes) (i:Int) (vN:G5 .str (.str s)) (h_i:G5 .i (.int i)) (aP:XL s i=true):ni0 kf Y s i=Y (nbE s i):=by
 have hl:=vI vN
 have hi:=wR h_i
 simp only[XL,aw,eX] at aP
 simp only[len] at aP
 have e1:Int.tdiv i 8=i / 8:=Int.tdiv_eq_ediv_of_nonneg (by omega)
 have e2:Int.tmod i 8=i % 8:=Int.tmod_eq_emod_of_nonneg (by omega)
 have b0:=sL s (i / 8)
 have c0:=tY s (i / 8)
 have w1:nL (i / 8)=i / 8:=nF (by omega) (by omega)
 have w2:nL (7 - i % 8)=7 - i % 8:=nF (by omega) (by omega)
 have w3:nL (wV s (i / 8))=wV s (i / 8):=nF (by omega) (by omega)
 obtain⟨s1,s2⟩:=nwK b0 c0 (n:=7 - i % 8) (by omega) (by omega)
 have g1:idx (i / 8) s=true:=by simp only[idx,aw,eX];omega
 have g2:decide (0≤7 - i % 8)=true:=Lu (by omega)
 unfold ni0 nbE
 simp only[e1,e2,w1,w2,w3,s1,s2,g1,g2,ng,aj]
def yI (Y:Int→α) (key:Bytes) (bit:Int) (ov:Int→Int→α) (n i:Int):α:=
 bif decide (i<nL (bit+32)) then
  bif Ed true (XL key i) then
   ov (bits .or .i64 (Zb .i64 n 1) (nbE key i)) (nL (i+1))
  else kf
 else Y n
def yH (Y:Int→α) (N:Nat) (key:Bytes) (bit:Int) (m_:Nat):Int→Int→α:=
 Nat.rec (motive:=fun _=>Int→Int→α) (fun _ _=>kf) (fun _ ov=>yI kf Y key bit ov) m_
theorem T9 (Y:Int→α) (N:Nat) (key:Bytes) (bit:Int) (m_:Nat):yH kf Y N key bit (m_+1)=yI kf Y key bit (yH kf Y N key bit m_):=rfl
def Rh (kf:α) (Y:Int→α) (l0:Int→Int→α) (key:Bytes) (bit:Int):α:=
 bif bif (len key) != 16 then true else !(nf bit 0 96) then Y (-1)
 else l0 0 bit
def ZA (Y:Int→α) (N:Nat) (key:Bytes) (bit:Int):α:=Rh kf Y (yH kf Y N key bit N) key bit
theorem nyW:∀j:Nat,j<33→(2:Int) ^ j≤4294967296:=by decide
def kwF (key:Bytes) (bit:Int) (j:Nat) (n:Int):Int:=n*2+nbE key (bit+(j:Int))
def Rb (key:Bytes) (bit:Int):Int:=bif bif (len key) != 16 then true else !(nf bit 0 96) then -1 else itN (kwF key bit) 32 0 0
theorem nnd (Y:Int→α) (key:Bytes) (bit:Int):∃N,ZA kf Y N key bit=Y (Rb key bit):=by
 unfold ZA Rh Rb
 refine⟨33, ?_⟩
 refine oA (fun _=>rfl) (fun hg=> ?_)
 have h16:len key=16:=by
  revert hg
  cases h:(len key) != 16
  ·intro _;simpa using h
  ·intro h;cases h
 have hb:nf bit 0 96=true:=by
  revert hg
  cases (len key) != 16<;>cases nf bit 0 96<;>simp
 have hb:=nZ.1 hb
 have key:∀(m j:Nat) (n:Int) (N:Nat),j+m=32→m<N→0≤n→n<2 ^ j→yH kf Y 33 key bit N n (bit+(j:Int))=Y (itN (kwF key bit) m j n):=by
  intro m
  induction m with
  | zero=>
   intro j n N h1 h2 h3 h4
   obtain⟨N,rfl⟩:∃q,N=q+1:=⟨N - 1,by omega⟩
   have hj:(j:Int)=32:=by omega
   rw[T9]
   have w1:nL (bit+32)=bit+32:=nF (by omega) (by omega)
   have hf:decide (bit+(j:Int)<bit+32)=false:=Lt (by omega)
   simp only[yI,w1,hf,aQ,itN]
  | succ m ih=>
   intro j n N h1 h2 h3 h4
   obtain⟨N,rfl⟩:∃q,N=q+1:=⟨N - 1,by omega⟩
   have hk:=nxU key (bit+(j:Int))
   have hp:=nyW j (by omega)
   have hq:=nyW (j+1) (by omega)
   have hs:(2:Int) ^ (j+1)=2 ^ j*2:=Int.pow_succ 2 j
   have g1:XL key (bit+(j:Int))=true:=by simp only[XL,aw,eX];omega
   have this:=ih (j+1) (n*2+nbE key (bit+(j:Int))) N (by omega) (by omega) (by omega) (by omega)
   rw[T9]
   have w1:nL (bit+32)=bit+32:=nF (by omega) (by omega)
   have w2:nL (bit+(j:Int)+1)=bit+((j+1:Nat):Int):=by rw[nF (by omega) (by omega)];omega
   have ht:decide (bit+(j:Int)<bit+32)=true:=Lu (by omega)
   have e1:bits .or .i64 (Zb .i64 n 1) (nbE key (bit+(j:Int)))=n*2+nbE key (bit+(j:Int)):=by
    rw[show Zb .i64 n 1=nL (n*2) from rfl,nF (n:=n*2) (by omega) (by omega)]
    exact Yl 1 (by omega) (by omega) (by omega) (by omega) (by omega) (by omega)
   simp only[yI,w1,w2,ht,e1,g1,ng,aj]
   exact this
 have:=key 32 0 0 33 (by omega) (by omega) (by omega) (by decide)
 exact (by rw[show bit+((0:Nat):Int)=bit by omega] at this;exact this)
def za (Y:Int→α) (key:Bytes) (bit:Int) (ov:Int→Int→α) (x k:Int):α:=
 bif decide (k<32) then
  bif Ed true (XL key (nL (bit+k))) then
   ov (nL ((nL (2*x))+(nbE key (nL (bit+k))))) (nL (k+1))
  else kf
 else Y x
def y_ (Y:Int→α) (N:Nat) (key:Bytes) (bit:Int) (m_:Nat):Int→Int→α:=
 Nat.rec (motive:=fun _=>Int→Int→α) (fun _ _=>kf) (fun _ ov=>za kf Y key bit ov) m_
theorem UG (Y:Int→α) (N:Nat) (key:Bytes) (bit:Int) (m_:Nat):y_ kf Y N key bit (m_+1)=za kf Y key bit (y_ kf Y N key bit m_):=rfl
def R6 (kf:α) (Y:Int→α) (l0:Int→Int→α) (key:Bytes) (bit:Int):α:=
 bif bif (len key) != 16 then true else !(nf bit 0 96) then Y (-1)
 else l0 0 0
def nbk (Y:Int→α) (N:Nat) (key:Bytes) (bit:Int):α:=R6 kf Y (y_ kf Y N key bit N) key bit
theorem no2 (Y:Int→α) (key:Bytes) (bit:Int):∃N,nbk kf Y N key bit=Y (Rb key bit):=by
 unfold nbk R6 Rb
 refine⟨33, ?_⟩
 refine oA (fun _=>rfl) (fun hg=> ?_)
 have h16:len key=16:=by
  revert hg
  cases h:(len key) != 16
  ·intro _;simpa using h
  ·intro h;cases h
 have hb:nf bit 0 96=true:=by
  revert hg
  cases (len key) != 16<;>cases nf bit 0 96<;>simp
 have hb:=nZ.1 hb
 have key:∀(m j:Nat) (n:Int) (N:Nat),j+m=32→m<N→0≤n→n<2 ^ j→y_ kf Y 33 key bit N n (j:Int)=Y (itN (kwF key bit) m j n):=by
  intro m
  induction m with
  | zero=>
   intro j n N h1 h2 h3 h4
   obtain⟨N,rfl⟩:∃q,N=q+1:=⟨N - 1,by omega⟩
   have hj:(j:Int)=32:=by omega
   rw[UG]
   have hf:decide ((j:Int)<32)=false:=Lt (by omega)
   simp only[za,hf,aQ,itN]
  | succ m ih=>
   intro j n N h1 h2 h3 h4
   obtain⟨N,rfl⟩:∃q,N=q+1:=⟨N - 1,by omega⟩
   have hk:=nxU key (bit+(j:Int))
   have hp:=nyW j (by omega)
   have hq:=nyW (j+1) (by omega)
   have hs:(2:Int) ^ (j+1)=2 ^ j*2:=Int.pow_succ 2 j
   have g1:XL key (bit+(j:Int))=true:=by simp only[XL,aw,eX];omega
   have this:=ih (j+1) (n*2+nbE key (bit+(j:Int))) N (by omega) (by omega) (by omega) (by omega)
   rw[UG]
   have w2:nL ((j:Int)+1)=((j+1:Nat):Int):=by rw[nF (by omega) (by omega)];omega
   have w3:nL (bit+(j:Int))=bit+(j:Int):=nF (by omega) (by omega)
   have w4:nL (2*n)=n*2:=by rw[nF (by omega) (by omega)];omega
   have w5:nL (n*2+nbE key (bit+(j:Int)))=n*2+nbE key (bit+(j:Int)):=nF (by omega) (by omega)
   have ht:decide ((j:Int)<32)=true:=Lu (by omega)
   simp only[za,w2,w3,w4,w5,ht,g1,ng,aj]
   exact this
 have:=key 32 0 0 33 (by omega) (by omega) (by omega) (by decide)
 exact this
def yG (Y:Int→α) (key input:Bytes) (ov:Int→Int→α) (h i:Int):α:=
 bif decide (i<nL (8*(len input))) then
  bif Ed true (XL input i) then
   ov (bif (nbE input i)==1 then bits .xor .i64 h (Rb key i) else h) (nL (i+1))
  else kf
 else Y h
def uv (Y:Int→α) (N:Nat) (key input:Bytes) (m_:Nat):Int→Int→α:=
 Nat.rec (motive:=fun _=>Int→Int→α) (fun _ _=>kf) (fun _ ov=>yG kf Y key input ov) m_
theorem T8 (Y:Int→α) (N:Nat) (key input:Bytes) (m_:Nat):uv kf Y N key input (m_+1)=yG kf Y key input (uv kf Y N key input m_):=rfl
def zP (kf:α) (Y:Int→α) (l0:Int→Int→α) (key input:Bytes):α:=
 bif bif (len key) != 16 then true else decide (12<len input) then Y (-1)
 else l0 0 0
def Zs (Y:Int→α) (N:Nat) (key input:Bytes):α:=zP kf Y (uv kf Y N key input N) key input
def hbF (key input:Bytes) (i:Nat) (h:Int):Int:=bif (nbE input (i:Int))==1 then bits .xor .i64 h (Rb key (i:Int)) else h
def ng0 (key input:Bytes):Int:=bif bif (len key) != 16 then true else decide (12<len input) then -1 else itN (hbF key input) (8*input.length) 0 0
theorem Zr (Y:Int→α) (key input:Bytes) (nkV:G5 .str (.str input)):∃N,Zs kf Y N key input=Y (ng0 key input):=by
 have hl:=vI nkV
 unfold Zs zP ng0
 refine⟨8*input.length+1, ?_⟩
 refine oA (fun _=>rfl) (fun hg=> ?_)
 have h12:input.length≤12:=by
  revert hg
  cases (len key) != 16
  ·intro h
   have:=of_decide_eq_false h
   simp only[len] at this
   omega
  ·intro h;cases h
 have w1:nL (8*(len input))=((8*input.length:Nat):Int):=by rw[nF (by simp only[len];omega) (by simp only[len];omega)];simp only[len];omega
 refine (yt (8*input.length) (fun n i (h:Int)=>uv kf Y (8*input.length+1) key input n h i) (hbF key input) Y (fun _ _=>True) (fun _ _ _ _=>trivial) ?_ ?_ (8*input.length+1) 0 trivial (by omega))
 ·intro n i h hi _
  show uv kf Y (8*input.length+1) key input (n+1) h (i:Int)=_
  rw[T8]
  have g1:XL input (i:Int)=true:=by simp only[XL,aw,eX];simp only[len];omega
  have w2:nL ((i:Int)+1)=(i:Int)+1:=nF (by omega) (by omega)
  have ht:decide ((i:Int)<((8*input.length:Nat):Int))=true:=Lu (by omega)
  simp only[yG,w1,w2,ht,g1,ng,aj]
  rfl
 ·intro n h _
  show uv kf Y (8*input.length+1) key input (n+1) h ((8*input.length:Nat):Int)=_
  rw[T8]
  have hf:decide (((8*input.length:Nat):Int)<((8*input.length:Nat):Int))=false:=Lt (by omega)
  simp only[yG,w1,hf,aQ]
def nb_ (Y:Int→α) (key:Bytes) (f:nG):α:=
 Y (ng0 key (nm2 f))
def zm (key:Bytes) (f:nG):Int:=nb_ id key f
theorem nb9 (Y:Int→α) (key:Bytes) (f:nG):nb_ Y key f=Y (zm key f):=by
 rfl
def VK (Y:Int→α) (q:nd):α:=
 bif decide (q.Count<q.nO) then Y 1
 else Y 0
def ya (q:nd):Int:=VK id q
theorem ntl (Y:Int→α) (q:nd):VK Y q=Y (ya q):=by
 exact J9 rfl rfl
def neh (Y:Int→α) (q:nd):α:=
 bif Ed true (!(q.nO==0)) then
  Y (nL (1 - (nL (Int.tdiv q.Count q.nO))))
 else kf
theorem nsp (Y:Int→α) (q:nd) (aP:qD q=true):neh kf Y q=Y (ya q):=by
 obtain⟨f1,f2,f3,f4,f5,f6,f7⟩:=xA aP
 have hz:(!(q.nO==0))=true:=by simp;omega
 unfold neh ya VK
 refine nY (rm hz) ?_
 have e:nL (1 - nL (Int.tdiv q.Count q.nO))=bif decide (q.Count<q.nO) then 1 else 0:=by
  rw[Int.tdiv_eq_ediv_of_nonneg f4]
  generalize q.Count=c at*
  by_cases h:c<q.nO
  ·rw[Lu h,Int.ediv_eq_zero_of_lt f4 h];rfl
  ·rw[Lt h]
   have:c / q.nO=1:=by
    rcases xu f1 with h2 | h2 | h2 | h2<;>rw[h2] at h f5 ⊢ <;>omega
   rw[this];rfl
 rw[e]
 cases decide (q.Count<q.nO)<;>rfl
def VM (Y:Int→α) (q:nd):α:=
 bif Ed true (!(q.nO==0)) then
  Y (nL (q.qk+(nL ((Int.tmod q.Count q.nO)*16))))
 else kf
def SA (q:nd):Int:=nL (q.qk+nL (Int.tmod q.Count q.nO*16))
theorem njI (Y:Int→α) (q:nd) (aP:qD q=true):VM kf Y q=Y (SA q):=by
 obtain⟨f1,f2,f3,f4,f5,f6,f7⟩:=xA aP
 have hz:(!(q.nO==0))=true:=by simp;omega
 unfold VM
 exact nY (rm hz) rfl
def SR (Y:na→nd→Bool→α) (Z:Rows) (m:na) (O:Int) (q:nd) (x:nI):α:=
 let z0:na×Bool:=rk Z m O (SA q) (qy x (ya q))
 bif bif !(qD q) then true else !(uP x) then
  bif Ed true (sJ m) then
   Y (n7 m) q false
  else kf
 else bif Ed (Ed true (qD q)) (sM Z m O (SA q) (qy x (ya q))) then
   bif !z0.2 then Y z0.1 q false
   else bif Ed true (!((nL (2*q.nO))==0)) then
     Y z0.1 (⟨q.qk,q.nO,Int.tmod (nL (q.Count+1)) (nL (2*q.nO))⟩:nd) true
    else kf
  else kf
def qg (Z:Rows) (m:na) (O:Int) (q:nd) (x:nI):na×nd×Bool:=
 bif bif !(qD q) then true else !(uP x) then (m,q,false)
 else bif !(rk Z m O (SA q) (qy x (ya q))).2 then (m,q,false)
 else ((rk Z m O (SA q) (qy x (ya q))).1,⟨q.qk,q.nO,Int.tmod (nL (q.Count+1)) (nL (2*q.nO))⟩,true)
def Nt {α β:Type} (Z:Rows) (m:na) (O:Int) (q:α) (x:β):Bool:=sJ m
theorem ni5 (l:Rows) (m:na) (d:Int) (q:nd) (x:nI):(qg l m d q x).1.nP.length=m.nP.length:=by
 unfold qg
 cases (bif !(qD q) then true else !(uP x))
 ·cases (rk l m d (SA q) (qy x (ya q))).2
  ·rfl
  ·exact nf1 _ _ _ _ _ _
 ·rfl
theorem npS {l:Rows} {m:na} {d:Int} {q:nd} {x:nI} (h:qD q=true):qD (qg l m d q x).2.1=true:=by
 unfold qg
 cases (bif !(qD q) then true else !(uP x))
 ·cases (rk l m d (SA q) (qy x (ya q))).2
  ·exact h
  ·exact nz0 h
 ·exact h
theorem neQ (Y:na→nd→Bool→α) (Z:Rows) (m:na) (O:Int) (q:nd) (x:nI) (aP:Nt Z m O q x=true):SR kf Y Z m O q x=Y (qg Z m O q x).1 (qg Z m O q x).2.1 (qg Z m O q x).2.2:=by
 have hm:sJ m=true:=aP
 have hdw:∀a s,sM Z m O a s=true:=fun a s=>aP
 unfold SR qg
 dsimp only
 refine oA (K:=fun r:na×nd×Bool=>Y r.1 r.2.1 r.2.2) (fun _=>by rw[hm];rfl) (fun hg=> ?_)
 have hq:qD q=true:=by
  revert hg
  cases qD q<;>simp
 obtain⟨f1,f2,f3,f4,f5,f6,f7⟩:=xA hq
 have hz:(!((nL (2*q.nO))==0))=true:=by
  rw[nF (by omega) (by omega)]
  simp;omega
 have Jm:(!(q.nO==0))=true:=by simp;omega
 refine nY (by rw[hq,hdw];rfl) ?_
 refine oA (K:=fun r:na×nd×Bool=>Y r.1 r.2.1 r.2.2) (fun hn=> ?_) (fun _=>nY (rm hz) rfl)
 have hn:(rk Z m O (SA q) (qy x (ya q))).2=false:=by simpa using hn
 rw[show (rk Z m O (SA q) (qy x (ya q))).1=m from nAW hn]
def S8 (Y:na→nd→Bool→α) (Z:Rows) (m:na) (O:Int) (q:nd) (x:nI):α:=
 let z0:Int:=nL (q.qk+(nL (16*(Int.tmod q.Count q.nO))))
 let z1:na×Bool:=rk Z m O z0 (qy x (ya q))
 bif bif !(qD q) then true else !(uP x) then
  bif Ed true (sJ m) then
   Y (n7 m) q false
  else kf
 else bif Ed (Ed (Ed true (!(q.nO==0))) (qD q)) (sM Z m O z0 (qy x (ya q))) then
   bif !z1.2 then
    bif Ed true (sJ m) then
     Y (n7 m) q false
    else kf
   else bif Ed true (!((nL (2*q.nO))==0)) then
     Y z1.1 (⟨q.qk,q.nO,Int.tmod (nL (q.Count+1)) (nL (2*q.nO))⟩:nd) true
    else kf
  else kf
theorem nga (Y:na→nd→Bool→α) (Z:Rows) (m:na) (O:Int) (q:nd) (x:nI) (aP:Nt Z m O q x=true):S8 kf Y Z m O q x=Y (qg Z m O q x).1 (qg Z m O q x).2.1 (qg Z m O q x).2.2:=by
 have hm:sJ m=true:=aP
 have hdw:∀a s,sM Z m O a s=true:=fun a s=>aP
 unfold S8 qg
 dsimp only
 refine oA (K:=fun r:na×nd×Bool=>Y r.1 r.2.1 r.2.2) (fun _=>by rw[hm];rfl) (fun hg=> ?_)
 have hq:qD q=true:=by
  revert hg
  cases qD q<;>simp
 obtain⟨f1,f2,f3,f4,f5,f6,f7⟩:=xA hq
 have hz:(!((nL (2*q.nO))==0))=true:=by
  rw[nF (by omega) (by omega)]
  simp;omega
 have Jm:(!(q.nO==0))=true:=by simp;omega
 rw[Int.mul_comm 16]
 refine nY (by rw[hq,Jm,hdw];rfl) ?_
 refine oA (K:=fun r:na×nd×Bool=>Y r.1 r.2.1 r.2.2) (fun hn=>nY (rm hm) rfl) (fun _=>nY (rm hz) rfl)
def nej (Y:na→nd→Bool→α) (Z:Rows) (m:na) (O:Int) (q:nh) (entry key:Bytes):α:=
 let z0:Int:=len ((oH q.ql.nM).1)
 let z1:na×Bool:=rk Z m O (((oM entry).1).At) ((oH q.ql.nM).1)
 let z2:na:=z1.1
 let z3:nI:=(⟨((oM entry).1).uz,z0,q.ql.nO,q.ql.Count,zm key (zl q.ql.nM)⟩:nI)
 let z4:na×nd×Bool:=qg Z z2 O q.Device z3
 bif bif !((oM entry).2) then true else bif (((oM entry).1).Op) != 3 then true else decide (((oM entry).1).Len<z0) then
  bif Ed true (sJ m) then
   Y (n7 m) q.Device false
  else kf
 else bif Ed true (sM Z m O (((oM entry).1).At) ((oH q.ql.nM).1)) then
   bif !z1.2 then
    bif Ed true (sJ m) then
     Y (n7 m) q.Device false
    else kf
   else bif Ed true (Nt Z z2 O q.Device z3) then
     Y z4.1 z4.2.1 z4.2.2
    else kf
  else kf
def se (Z:Rows) (m:na) (O:Int) (q:nh) (entry key:Bytes):na×nd×Bool:=
 bif bif !(oM entry).2 then true else bif (oM entry).1.Op != 3 then true else decide ((oM entry).1.Len<len (oH q.ql.nM).1) then (m,q.Device,false)
 else bif !(rk Z m O (oM entry).1.At (oH q.ql.nM).1).2 then (m,q.Device,false)
 else qg Z (rk Z m O (oM entry).1.At (oH q.ql.nM).1).1 O q.Device ⟨(oM entry).1.uz,len (oH q.ql.nM).1,q.ql.nO,q.ql.Count,zm key (zl q.ql.nM)⟩
def YE {α β γ:Type} (Z:Rows) (m:na) (O:Int) (q:α) (a:β) (b:γ):Bool:=sJ m
theorem nvG (l:Rows) (m:na) (d:Int) (q:nh) (e key:Bytes):(se l m d q e key).1.nP.length=m.nP.length:=by
 unfold se
 cases (bif !(oM e).2 then true else bif (oM e).1.Op != 3 then true else decide ((oM e).1.Len<len (oH q.ql.nM).1))
 ·cases (rk l m d (oM e).1.At (oH q.ql.nM).1).2
  ·rfl
  ·exact (ni5 _ _ _ _ _).trans (nf1 _ _ _ _ _ _)
 ·rfl
theorem nyr {l:Rows} {m:na} {d:Int} {q:nh} {e key:Bytes} (h:qD q.Device=true):qD (se l m d q e key).2.1=true:=by
 unfold se
 cases (bif !(oM e).2 then true else bif (oM e).1.Op != 3 then true else decide ((oM e).1.Len<len (oH q.ql.nM).1))
 ·cases (rk l m d (oM e).1.At (oH q.ql.nM).1).2
  ·exact h
  ·exact npS h
 ·exact h
def qF (Z:Rows) (m:na) (O:Int) (q:nh) (key entry:Bytes):na×nd×Bool:=bif !(oH q.ql.nM).2 then (m,q.Device,false) else se Z m O q entry key
theorem nsr (Y:na→nd→Bool→α) (Z:Rows) (m:na) (O:Int) (q:nh) (entry key:Bytes) (aP:YE Z m O q entry key=true):nej kf Y Z m O q entry key=Y (se Z m O q entry key).1 (se Z m O q entry key).2.1 (se Z m O q entry key).2.2:=by
 have hm:sJ m=true:=aP
 have hdw:∀a s,sM Z m O a s=true:=fun a s=>aP
 have hpm:∀a s (x:nI),Nt Z (rk Z m O a s).1 O q.Device x=true:=fun a s x=>Lu (by
  show (put Z m O a s true).1.nP.length≤16777216
  rw[nf1]
  exact uy aP)
 unfold nej se
 dsimp only
 refine oA (K:=fun r:na×nd×Bool=>Y r.1 r.2.1 r.2.2) (fun _=>nY (rm hm) rfl) (fun hg=> ?_)
 refine nY (rm (hdw _ _)) ?_
 refine oA (K:=fun r:na×nd×Bool=>Y r.1 r.2.1 r.2.2) (fun _=>nY (rm hm) rfl) (fun _=> ?_)
 exact nY (rm (hpm _ _ _)) rfl
def ZQ (Y:na→nd→Bool→α) (Z:Rows) (m:na) (O:Int) (q:nh) (key entry:Bytes):α:=
 let z0:Int:=len ((oH q.ql.nM).1)
 let z1:na×Bool:=rk Z m O (((oM entry).1).At) ((oH q.ql.nM).1)
 let z2:na:=z1.1
 let z3:nI:=(⟨((oM entry).1).uz,z0,q.ql.nO,q.ql.Count,zm key (zl q.ql.nM)⟩:nI)
 let z4:na×nd×Bool:=qg Z z2 O q.Device z3
 bif bif !((oM entry).2) then true else bif !((oH q.ql.nM).2) then true else bif (((oM entry).1).Op) != 3 then true else decide (((oM entry).1).Len<z0) then Y m q.Device false
 else bif Ed true (sM Z m O (((oM entry).1).At) ((oH q.ql.nM).1)) then
   bif !z1.2 then Y m q.Device false
   else bif Ed true (Nt Z z2 O q.Device z3) then
     Y z4.1 z4.2.1 z4.2.2
    else kf
  else kf
theorem nnu (Y:na→nd→Bool→α) (Z:Rows) (m:na) (O:Int) (q:nh) (key entry:Bytes) (aP:YE Z m O q key entry=true):ZQ kf Y Z m O q key entry=Y (qF Z m O q key entry).1 (qF Z m O q key entry).2.1 (qF Z m O q key entry).2.2:=by
 have hm:sJ m=true:=aP
 have hdw:∀a s,sM Z m O a s=true:=fun a s=>aP
 have hpm:∀a s (x:nI),Nt Z (rk Z m O a s).1 O q.Device x=true:=fun a s x=>Lu (by
  show (put Z m O a s true).1.nP.length≤16777216
  rw[nf1]
  exact uy aP)
 unfold ZQ qF
 dsimp only
 have hc:∀a b c:Bool,(bif a then true else bif !(oH q.ql.nM).2 then true else bif b then true else c)=(bif !(oH q.ql.nM).2 then true else bif a then true else bif b then true else c):=by
  intro a b c
  cases a<;>cases (oH q.ql.nM).2<;>rfl
 rw[hc]
 cases (oH q.ql.nM).2
 ·rfl
 simp only[Bool.not_true,aQ]
 unfold se
 refine oA (K:=fun r:na×nd×Bool=>Y r.1 r.2.1 r.2.2) (fun _=>rfl) (fun hg=> ?_)
 refine nY (rm (hdw _ _)) ?_
 refine oA (K:=fun r:na×nd×Bool=>Y r.1 r.2.1 r.2.2) (fun _=>rfl) (fun _=> ?_)
 exact nY (rm (hpm _ _ _)) rfl
def VO (Y:na→nd→Bool→α) (Z:Rows) (m:na) (O:Int) (q:nh) (key entry:Bytes):α:=
 let z0:Int:=len ((oH q.ql.nM).1)
 let z1:na×Bool:=rk Z m O (((oM entry).1).At) ((oH q.ql.nM).1)
 let z2:na:=z1.1
 let z3:nI:=(⟨((oM entry).1).uz,z0,q.ql.nO,q.ql.Count,zm key (zl q.ql.nM)⟩:nI)
 let z4:na×nd×Bool:=qg Z z2 O q.Device z3
 bif bif !((oM entry).2) then true else bif !((oH q.ql.nM).2) then true else bif (((oM entry).1).Op) != 3 then true else decide (((oM entry).1).Len<z0) then
  bif false then
   Y m q.Device false
  else kf
 else bif Ed true (sM Z m O (((oM entry).1).At) ((oH q.ql.nM).1)) then
   bif !z1.2 then
    bif false then
     Y m q.Device false
    else kf
   else bif Ed true (Nt Z z2 O q.Device z3) then
     Y z4.1 z4.2.1 z4.2.2
    else kf
  else kf
def npg (Z:Rows) (m:na) (O:Int) (q:nh) (key entry:Bytes):Bool:=YE Z m O q key entry && (qF Z m O q key entry).2.2
theorem njK (Y:na→nd→Bool→α) (Z:Rows) (m:na) (O:Int) (q:nh) (key entry:Bytes) (aP:npg Z m O q key entry=true):VO kf Y Z m O q key entry=Y (qF Z m O q key entry).1 (qF Z m O q key entry).2.1 (qF Z m O q key entry).2.2:=by
 obtain⟨aP,hs⟩:YE Z m O q key entry=true∧(qF Z m O q key entry).2.2=true:=by simpa only[npg,aw] using aP
 unfold qF se at hs
 have hm:sJ m=true:=aP
 have hdw:∀a s,sM Z m O a s=true:=fun a s=>aP
 have hpm:∀a s (x:nI),Nt Z (rk Z m O a s).1 O q.Device x=true:=fun a s x=>Lu (by
  show (put Z m O a s true).1.nP.length≤16777216
  rw[nf1]
  exact uy aP)
 unfold VO qF
 dsimp only
 have hc:∀a b c:Bool,(bif a then true else bif !(oH q.ql.nM).2 then true else bif b then true else c)=(bif !(oH q.ql.nM).2 then true else bif a then true else bif b then true else c):=by
  intro a b c
  cases a<;>cases (oH q.ql.nM).2<;>rfl
 rw[hc]
 cases hB:(oH q.ql.nM).2
 ·rw[hB] at hs
  cases hs
 rw[hB] at hs
 simp only[Bool.not_true,aQ] at hs ⊢
 unfold se
 refine oA (K:=fun r:na×nd×Bool=>Y r.1 r.2.1 r.2.2) (fun hg=> ?_) (fun hg=> ?_)
 ·rw[hg] at hs
  cases hs
 rw[hg,aQ] at hs
 refine nY (rm (hdw _ _)) ?_
 refine oA (K:=fun r:na×nd×Bool=>Y r.1 r.2.1 r.2.2) (fun hw=> ?_) (fun _=> ?_)
 ·rw[hw] at hs
  cases hs
 exact nY (rm (hpm _ _ _)) rfl
def Vc (Y:na→nh→α) (Z:Rows) (m:na) (O:Int) (q:nh) (key:Bytes):α:=
 let z0:Bytes×n8×Bool:=qp Z m O q.Ring
 let z1:na×nd×Bool:=qF Z m O q key z0.1
 let z2:nU:=(⟨(⟨0,0,0,0,0,0,0,0,(⟨0,0,0,0,0,0,0,[]⟩:nz)⟩:nj),0,0⟩:nU)
 let z3:Int:=nL (q.vJ+q.ql.Count)
 bif bif !(yi q) then true else bif !q.sV then true else (len key) != 16 then
  bif Ed true (sJ m) then
   Y (n7 m) q
  else kf
 else bif z0.2.2 then
  bif Ed true (npg Z m O q key z0.1) then
   bif z1.2.2 then Y z1.1 (⟨z0.2.1,z1.2.1,q.Driver,z2,false,q.vJ⟩:nh)
   else bif Ed true (sJ m) then
     Y (n7 m) (⟨z0.2.1,q.Device,q.Driver,z2,false,z3⟩:nh)
    else kf
  else kf
 else bif Ed true (sJ m) then
   Y (n7 m) (⟨q.Ring,q.Device,q.Driver,z2,false,z3⟩:nh)
  else kf
def nz7:nU:=⟨⟨0,0,0,0,0,0,0,0,⟨0,0,0,0,0,0,0,[]⟩⟩,0,0⟩
def net {α β:Type} (Z:Rows) (m:na) (O:Int) (q:α) (key:β):Bool:=sJ m
def qn (Z:Rows) (m:na) (O:Int) (q:nh) (key:Bytes):na×nh:=
 bif bif !(yi q) then true else bif !q.sV then true else (len key) != 16 then (m,q)
 else bif bif (qp Z m O q.Ring).2.2 then (se Z m O q (qp Z m O q.Ring).1 key).2.2 else false then
  ((se Z m O q (qp Z m O q.Ring).1 key).1,⟨(qp Z m O q.Ring).2.1,(se Z m O q (qp Z m O q.Ring).1 key).2.1,q.Driver,nz7,false,q.vJ⟩)
 else (m,⟨(qp Z m O q.Ring).2.1,q.Device,q.Driver,nz7,false,nL (q.vJ+q.ql.Count)⟩)
theorem PG (l:Rows) (m:na) (d:Int) (q:nh) (key:Bytes):(qn l m d q key).1.nP.length=m.nP.length:=by
 unfold qn
 cases (bif !(yi q) then true else bif !q.sV then true else (len key) != 16)
 ·cases (bif (qp l m d q.Ring).2.2 then (se l m d q (qp l m d q.Ring).1 key).2.2 else false)
  ·rfl
  ·exact nvG _ _ _ _ _ _
 ·rfl
theorem neo {l:Rows} {m:na} {d:Int} {q:nh} {key:Bytes} (h:qD q.Device=true):qD (qn l m d q key).2.Device=true:=by
 unfold qn
 cases (bif !(yi q) then true else bif !q.sV then true else (len key) != 16)
 ·cases (bif (qp l m d q.Ring).2.2 then (se l m d q (qp l m d q.Ring).1 key).2.2 else false)
  ·exact h
  ·exact nyr h
 ·exact h
def fhC (Z:Rows) (m:na) (O:Int) (q:nh) (key:Bytes):Bool:=bif bif !(yi q) then true else bif !q.sV then true else (len key) != 16 then true else bif (qp Z m O q.Ring).2.2 then (qF Z m O q key (qp Z m O q.Ring).1).2.2 else true
def nwZ (Z:Rows) (m:na) (O:Int) (q:nh) (key:Bytes):Bool:=net Z m O q key && fhC Z m O q key
def nw0 (Z:Rows) (m:na) (O:Int) (q:nh) (key:Bytes):Bool:=net Z m O q key && !(fhC Z m O q key)
theorem njf (Y:na→nh→α) (Z:Rows) (m:na) (O:Int) (q:nh) (key:Bytes) (aP:nwZ Z m O q key=true):Vc kf Y Z m O q key=Y (qn Z m O q key).1 (qn Z m O q key).2:=by
 obtain⟨aP,AX⟩:net Z m O q key=true∧fhC Z m O q key=true:=by simpa only[nwZ,aw] using aP
 have hm:sJ m=true:=aP
 have ic:∀e:Bytes,YE Z m O q key e=true:=fun e=>aP
 have nAS:∀e:Bytes,YE Z m O q e key=true:=fun e=>aP
 unfold Vc qn
 dsimp only
 refine oA (K:=fun r:na×nh=>Y r.1 r.2) (fun _=>nY (rm hm) rfl) (fun hg=> ?_)
 have hS:(oH q.ql.nM).2=true:=by
  rw[npi]
  have h1:yi q=true:=by
   revert hg
   cases yi q<;>simp
  have h2:q.sV=true:=by
   revert hg
   cases yi q<;>cases q.sV<;>simp
  exact (nmx h1).2.2.2 h2
 have A3:∀e,qF Z m O q key e=se Z m O q e key:=fun e=>by unfold qF;rw[hS];rfl
 have nzS:(qp Z m O q.Ring).2.2=false→(qp Z m O q.Ring).2.1=q.Ring:=by
  unfold qp
  cases (bif !(ud q.Ring) then true else (zo q.Ring)==0)
  ·cases (yE Z m O (ue q.Ring q.Ring.Head) 16).2
   ·intro _;rfl
   ·intro h;cases h
  ·intro _;rfl
 unfold fhC at AX
 rw[hg,aQ] at AX
 cases hr:(qp Z m O q.Ring).2.2
 ·rw[nzS hr]
  simp only[aQ]
  exact nY (rm hm) rfl
 ·rw[hr,aj] at AX
  have h3:npg Z m O q key (qp Z m O q.Ring).1=true:=by
   simp only[npg,aw]
   exact⟨aP,AX⟩
  rw[A3] at AX
  simp only[aj,h3,A3,AX,ng]
  rfl
def Vb (Y:na→nh→α) (Z:Rows) (m:na) (O:Int) (q:nh) (key:Bytes):α:=
 let z0:Bytes×n8×Bool:=qp Z m O q.Ring
 let z1:na×nd×Bool:=qF Z m O q key z0.1
 let z2:nU:=(⟨(⟨0,0,0,0,0,0,0,0,(⟨0,0,0,0,0,0,0,[]⟩:nz)⟩:nj),0,0⟩:nU)
 let z3:Int:=nL (q.vJ+q.ql.Count)
 bif bif !(yi q) then true else bif !q.sV then true else (len key) != 16 then
  bif Ed true (sJ m) then
   Y (n7 m) q
  else kf
 else bif z0.2.2 then
  bif Ed true (YE Z m O q key z0.1) then
   bif z1.2.2 then
    bif false then
     Y z1.1 (⟨z0.2.1,z1.2.1,q.Driver,z2,false,q.vJ⟩:nh)
    else kf
   else bif Ed true (sJ m) then
     Y (n7 m) (⟨z0.2.1,q.Device,q.Driver,z2,false,z3⟩:nh)
    else kf
  else kf
 else bif Ed true (sJ m) then
   Y (n7 m) (⟨q.Ring,q.Device,q.Driver,z2,false,z3⟩:nh)
  else kf
theorem njc (Y:na→nh→α) (Z:Rows) (m:na) (O:Int) (q:nh) (key:Bytes) (aP:nw0 Z m O q key=true):Vb kf Y Z m O q key=Y (qn Z m O q key).1 (qn Z m O q key).2:=by
 obtain⟨aP,AX⟩:net Z m O q key=true∧(!(fhC Z m O q key))=true:=by simpa only[nw0,aw] using aP
 have hm:sJ m=true:=aP
 have ic:∀e:Bytes,YE Z m O q key e=true:=fun e=>aP
 have nAS:∀e:Bytes,YE Z m O q e key=true:=fun e=>aP
 unfold Vb qn
 dsimp only
 refine oA (K:=fun r:na×nh=>Y r.1 r.2) (fun _=>nY (rm hm) rfl) (fun hg=> ?_)
 have hS:(oH q.ql.nM).2=true:=by
  rw[npi]
  have h1:yi q=true:=by
   revert hg
   cases yi q<;>simp
  have h2:q.sV=true:=by
   revert hg
   cases yi q<;>cases q.sV<;>simp
  exact (nmx h1).2.2.2 h2
 have A3:∀e,qF Z m O q key e=se Z m O q e key:=fun e=>by unfold qF;rw[hS];rfl
 have nzS:(qp Z m O q.Ring).2.2=false→(qp Z m O q.Ring).2.1=q.Ring:=by
  unfold qp
  cases (bif !(ud q.Ring) then true else (zo q.Ring)==0)
  ·cases (yE Z m O (ue q.Ring q.Ring.Head) 16).2
   ·intro _;rfl
   ·intro h;cases h
  ·intro _;rfl
 have AX:fhC Z m O q key=false:=by simpa using AX
 unfold fhC at AX
 rw[hg,aQ] at AX
 cases hr:(qp Z m O q.Ring).2.2
 ·rw[hr] at AX
  cases AX
 ·rw[hr,aj,A3] at AX
  simp only[aj,ic,A3,AX,ng,aQ]
  exact nY hm rfl
def nbb (Y:na→nh→α) (Z:Rows) (m:na) (O:Int) (q:nh) (key:Bytes):α:=
 let z0:Bytes×n8×Bool:=qp Z m O q.Ring
 let z1:na×nd×Bool:=se Z m O q z0.1 key
 let z2:nU:=(⟨(⟨0,0,0,0,0,0,0,0,(⟨0,0,0,0,0,0,0,[]⟩:nz)⟩:nj),0,0⟩:nU)
 bif bif !(yi q) then true else bif !q.sV then true else (len key) != 16 then
  bif Ed true (sJ m) then
   Y (n7 m) q
  else kf
 else bif Ed true (YE Z m O q z0.1 key) then
   bif bif z0.2.2 then z1.2.2 else false then Y z1.1 (⟨z0.2.1,z1.2.1,q.Driver,z2,false,q.vJ⟩:nh)
   else bif Ed true (sJ m) then
     Y (n7 m) (⟨z0.2.1,q.Device,q.Driver,z2,false,nL (q.vJ+q.ql.Count)⟩:nh)
    else kf
  else kf
theorem noW (Y:na→nh→α) (Z:Rows) (m:na) (O:Int) (q:nh) (key:Bytes) (aP:net Z m O q key=true):nbb kf Y Z m O q key=Y (qn Z m O q key).1 (qn Z m O q key).2:=by
 have hm:sJ m=true:=aP
 have ic:∀e:Bytes,YE Z m O q key e=true:=fun e=>aP
 have nAS:∀e:Bytes,YE Z m O q e key=true:=fun e=>aP
 unfold nbb qn
 dsimp only
 refine oA (K:=fun r:na×nh=>Y r.1 r.2) (fun _=>nY (rm hm) rfl) (fun hg=> ?_)
 have hS:(oH q.ql.nM).2=true:=by
  rw[npi]
  have h1:yi q=true:=by
   revert hg
   cases yi q<;>simp
  have h2:q.sV=true:=by
   revert hg
   cases yi q<;>cases q.sV<;>simp
  exact (nmx h1).2.2.2 h2
 have A3:∀e,qF Z m O q key e=se Z m O q e key:=fun e=>by unfold qF;rw[hS];rfl
 have nzS:(qp Z m O q.Ring).2.2=false→(qp Z m O q.Ring).2.1=q.Ring:=by
  unfold qp
  cases (bif !(ud q.Ring) then true else (zo q.Ring)==0)
  ·cases (yE Z m O (ue q.Ring q.Ring.Head) 16).2
   ·intro _;rfl
   ·intro h;cases h
  ·intro _;rfl
 simp only[nAS,ng,aj]
 exact oA (K:=fun r:na×nh=>Y r.1 r.2) (fun _=>rfl) (fun _=>nY hm rfl)
def yM (Y:ny→α) (k rv pZ p6 p7 p8 p9 p_ qb qc:Int) (qd:Bool) (pj:Bytes) (pk:Bool) (pn po pq pr pw:Int) (pY oR oS oI oJ oK oL px py pz pA pB pC pD pE:Rows) (ov:Int→Rows→α) (n:Int) (oO:Rows):α:=
 bif decide (0<n) then
  bif Ed (Ed (Ed (Ed true (idx k oO)) (inl (Int.toNat k) oO)) (idx k oO)) (inl (Int.toNat k) oO) then
   ov (nL (n - 1)) (List.set oO (Int.toNat k) (bX (nth oO (Int.toNat k)) 0 (nA.enc (zj (nA.nc (nth oO (Int.toNat k)) 0)))))
  else kf
 else Y (⟨(⟨pY⟩:na),oR,(⟨(⟨rv,pZ,p6,p7⟩:n8),(⟨p8,p9,p_,oS⟩:nJ),oI,qb⟩:nt),oJ,oK,oO,oL,(⟨qc,qd,px⟩:nE),(⟨py,(⟨pz⟩:ni),(⟨pj,pA⟩:nB)⟩:nm),pB,pk,pC,pD,pE,(⟨pn,po,pq,pr,pw⟩:nV)⟩:ny)
def yL (Y:ny→α) (N:Nat) (k rv pZ p6 p7 p8 p9 p_ qb qc:Int) (qd:Bool) (pj:Bytes) (pk:Bool) (pn po pq pr pw:Int) (pY oR oS oI oJ oK oL px py pz pA pB pC pD pE:Rows) (m_:Nat):Int→Rows→α:=
 Nat.rec (motive:=fun _=>Int→Rows→α) (fun _ _=>kf) (fun _ ov=>yM kf Y k rv pZ p6 p7 p8 p9 p_ qb qc qd pj pk pn po pq pr pw pY oR oS oI oJ oK oL px py pz pA pB pC pD pE ov) m_
theorem Ud (Y:ny→α) (N:Nat) (k rv pZ p6 p7 p8 p9 p_ qb qc:Int) (qd:Bool) (pj:Bytes) (pk:Bool) (pn po pq pr pw:Int) (pY oR oS oI oJ oK oL px py pz pA pB pC pD pE:Rows) (m_:Nat):yL kf Y N k rv pZ p6 p7 p8 p9 p_ qb qc qd pj pk pn po pq pr pw pY oR oS oI oJ oK oL px py pz pA pB pC pD pE (m_+1)=yM kf Y k rv pZ p6 p7 p8 p9 p_ qb qc qd pj pk pn po pq pr pw pY oR oS oI oJ oK oL px py pz pA pB pC pD pE (yL kf Y N k rv pZ p6 p7 p8 p9 p_ qb qc qd pj pk pn po pq pr pw pY oR oS oI oJ oK oL px py pz pA pB pC pD pE m_):=rfl
def Ri (Y:ny→α) (l0:Int→Int→Int→Int→Int→Int→Int→Int→Int→Bool→Bytes→Bool→Int→Int→Int→Int→Int→Rows→Rows→Rows→Rows→Rows→Rows→Rows→Rows→Rows→Rows→Rows→Rows→Rows→Rows→Rows→Int→Rows→α) (h:ny) (k before:Int):α:=
 let z0:Int:=nL ((rI (nth h.Rx (Int.toNat k)) 6) - before)
 let z1:Int:=nL (2*(rI (nth h.Rx (Int.toNat k)) 5))
 bif Ed (Ed true (idx k h.Rx)) (inl (Int.toNat k) h.Rx) then
  bif Ed true (Nr z0 z1) then
   l0 h.Tx.Ring.qk h.Tx.Ring.nO h.Tx.Ring.Head h.Tx.Ring.wI h.Tx.oq.qk h.Tx.oq.nO h.Tx.oq.Count h.Tx.Next h.Filter.Mac h.Filter.pI h.nv.nX.Key h.qe h.Counters.Frames h.Counters.Bad h.Counters.qj h.Counters.qQ h.Counters.uf h.ox.nP h.Maps h.Tx.oq.qs h.Tx.nK h.Rx h.og h.oQ h.Filter.pV h.nv.ot h.nv.Table.nC h.nv.nX.Table h.pJ h.vM h.oF h.oY (Y8 z0 z1) h.nS
  else kf
 else kf
def ZK (Y:ny→α) (N:Nat) (h:ny) (k before:Int):α:=Ri kf Y (fun rv pZ p6 p7 p8 p9 p_ qb qc qd pj pk pn po pq pr pw pY oR oS oI oJ oK oL px py pz pA pB pC pD pE=>yL kf Y N k rv pZ p6 p7 p8 p9 p_ qb qc qd pj pk pn po pq pr pw pY oR oS oI oJ oK oL px py pz pA pB pC pD pE N) h k before
def npz (r:List DC):List DC:=nA.enc (zj (nA.nc r 0))
def evQ (h:ny) (k:Int):nd:=(nh.nc (nth h.Rx k.toNat) 0).Device
def evN (h:ny) (k before:Int):Nat:=(((evQ h k).Count - before) % (2*(evQ h k).nO)).toNat
def Gx (h:ny) (k before:Int):Bool:=decide (0≤k) && (decide (k<len h.Rx) && (decide (k<len h.nS) && (qD (evQ h k) && nf before 0 31)))
def xd (h:ny) (k before:Int):ny:= {h with nS:=itN (fun _ v=>List.set v k.toNat (npz (nth v k.toNat))) (evN h k before) 0 h.nS}
theorem nnm (Y:ny→α) (h:ny) (k before:Int) (h_h:kd ny.ct h.enc) (aP:Gx h k before=true):∃N,ZK kf Y N h k before=Y (xd h k before):=by
 have hw:=(oG (ny.nkM h_h)).2
 simp only[Gx,aw,eX] at aP
 obtain⟨h0,h1,h2,h3,h4⟩:=aP
 obtain⟨c,rfl⟩:∃c:Nat,k=(c:Int):=⟨k.toNat,by omega⟩
 have hk:c<h.Rx.length:=by simp only[len] at h1;omega
 have hv:c<h.nS.length:=by simp only[len] at h2;omega
 obtain⟨q1,q2,q3,q4,q5,q6,q7⟩:=xA h3
 have hb:=nZ.1 h4
 have hd5:rI (nth h.Rx c) 5=(evQ h (c:Int)).nO:=rfl
 have hd6:rI (nth h.Rx c) 6=(evQ h (c:Int)).Count:=rfl
 have n0:=Int.emod_nonneg ((evQ h (c:Int)).Count - before) (show 2*(evQ h (c:Int)).nO≠0 by omega)
 have n1:=Int.emod_lt_of_pos ((evQ h (c:Int)).Count - before) (show 0<2*(evQ h (c:Int)).nO by omega)
 have hE:((evQ h (c:Int)).Count - before) % (2*(evQ h (c:Int)).nO)=((evN h (c:Int) before:Nat):Int):=by unfold evN;omega
 have hN:evN h (c:Int) before≤32:=by unfold evN;omega
 have w1:nL ((evQ h (c:Int)).Count - before)=(evQ h (c:Int)).Count - before:=nF (by omega) (by omega)
 have w2:nL (2*(evQ h (c:Int)).nO)=2*(evQ h (c:Int)).nO:=nF (by omega) (by omega)
 unfold ZK Ri xd
 refine⟨40, ?_⟩
 simp only[hd5,hd6,J6,nR hk,sq hk,ng,aj]
 rw[w1,w2]
 obtain⟨m1,m2⟩:=WB (x:=(evQ h (c:Int)).Count - before) (n:=2*(evQ h (c:Int)).nO) (by omega) (by omega) (by omega) (by omega)
 simp only[m1,m2,hE,ng,aj]
 have key:∀(m:Nat) (i:Nat) (v:Rows) (N:Nat),m<N→i+m=evN h (c:Int) before→v.length=h.nS.length→(∃x:nA,nth v c=x.enc)→
   yL kf Y 40 (c:Int) h.Tx.Ring.qk h.Tx.Ring.nO h.Tx.Ring.Head h.Tx.Ring.wI h.Tx.oq.qk h.Tx.oq.nO h.Tx.oq.Count h.Tx.Next h.Filter.Mac h.Filter.pI h.nv.nX.Key h.qe h.Counters.Frames h.Counters.Bad h.Counters.qj h.Counters.qQ h.Counters.uf h.ox.nP h.Maps h.Tx.oq.qs h.Tx.nK h.Rx h.og h.oQ h.Filter.pV h.nv.ot h.nv.Table.nC h.nv.nX.Table h.pJ h.vM h.oF h.oY N ((m:Nat):Int) v=Y {h with nS:=itN (fun _ v=>List.set v c (npz (nth v c))) m i v} :=by
  intro m
  induction m with
  | zero=>
   intro i v N g1 g2 g3 g4
   obtain⟨N,rfl⟩:∃q,N=q+1:=⟨N - 1,by omega⟩
   rw[Ud]
   have hf:decide ((0:Int)<((0:Nat):Int))=false:=Lt (by omega)
   simp only[yM,hf,aQ,itN]
  | succ m ih=>
   intro i v N g1 g2 g3 g4
   obtain⟨N,rfl⟩:∃q,N=q+1:=⟨N - 1,by omega⟩
   rw[Ud]
   have hcv:c<v.length:=by omega
   have ht:decide ((0:Int)<((m+1:Nat):Int))=true:=Lu (by omega)
   have e:(nA.nc (nth v c) 0).enc=nth v c:=by obtain⟨x,hx⟩:=g4;rw[hx];rfl
   have er:bX (nth v c) 0 (nA.enc (zj (nA.nc (nth v c) 0)))=npz (nth v c):=r_ (by rw[←e];rfl)
   have this:=ih (i+1) (List.set v c (npz (nth v c))) N (by omega) (by omega) (by rw[List.length_set];exact g3) ⟨zj (nA.nc (nth v c) 0),na9 hcv _⟩
   have w3:nL (((m+1:Nat):Int) - 1)=((m:Nat):Int):=by rw[nF (by omega) (by omega)];omega
   simp only[yM,ht,w3,er,J6,nR hcv,sq hcv,ng,aj]
   exact this
 have:=key (evN h (c:Int) before) 0 h.nS 40 (by omega) (by omega) rfl ⟨nA.nc (nth h.nS c) 0,(nA.eta (hw _ (sr hv))).symm⟩
 exact this
def zf (Y:ny→α) (k n rv pZ p6 p7 p8 p9 p_ qb qc:Int) (qd:Bool) (pj:Bytes) (pk:Bool) (pn po pq pr pw:Int) (pY oR oS oI oJ oK oL px py pz pA pB pC pD pE:Rows) (ov:Int→Rows→α) (i:Int) (oO:Rows):α:=
 bif decide (i<n) then
  bif Ed (Ed (Ed (Ed true (idx k oO)) (inl (Int.toNat k) oO)) (idx k oO)) (inl (Int.toNat k) oO) then
   ov (nL (i+1)) (List.set oO (Int.toNat k) (bX (nth oO (Int.toNat k)) 0 (nA.enc (zj (nA.nc (nth oO (Int.toNat k)) 0)))))
  else kf
 else Y (⟨(⟨pY⟩:na),oR,(⟨(⟨rv,pZ,p6,p7⟩:n8),(⟨p8,p9,p_,oS⟩:nJ),oI,qb⟩:nt),oJ,oK,oO,oL,(⟨qc,qd,px⟩:nE),(⟨py,(⟨pz⟩:ni),(⟨pj,pA⟩:nB)⟩:nm),pB,pk,pC,pD,pE,(⟨pn,po,pq,pr,pw⟩:nV)⟩:ny)
def ze (Y:ny→α) (N:Nat) (k n rv pZ p6 p7 p8 p9 p_ qb qc:Int) (qd:Bool) (pj:Bytes) (pk:Bool) (pn po pq pr pw:Int) (pY oR oS oI oJ oK oL px py pz pA pB pC pD pE:Rows) (m_:Nat):Int→Rows→α:=
 Nat.rec (motive:=fun _=>Int→Rows→α) (fun _ _=>kf) (fun _ ov=>zf kf Y k n rv pZ p6 p7 p8 p9 p_ qb qc qd pj pk pn po pq pr pw pY oR oS oI oJ oK oL px py pz pA pB pC pD pE ov) m_
theorem UH (Y:ny→α) (N:Nat) (k n rv pZ p6 p7 p8 p9 p_ qb qc:Int) (qd:Bool) (pj:Bytes) (pk:Bool) (pn po pq pr pw:Int) (pY oR oS oI oJ oK oL px py pz pA pB pC pD pE:Rows) (m_:Nat):ze kf Y N k n rv pZ p6 p7 p8 p9 p_ qb qc qd pj pk pn po pq pr pw pY oR oS oI oJ oK oL px py pz pA pB pC pD pE (m_+1)=zf kf Y k n rv pZ p6 p7 p8 p9 p_ qb qc qd pj pk pn po pq pr pw pY oR oS oI oJ oK oL px py pz pA pB pC pD pE (ze kf Y N k n rv pZ p6 p7 p8 p9 p_ qb qc qd pj pk pn po pq pr pw pY oR oS oI oJ oK oL px py pz pA pB pC pD pE m_):=rfl
def R_ (Y:ny→α) (l0:Int→Int→Int→Int→Int→Int→Int→Int→Int→Int→Bool→Bytes→Bool→Int→Int→Int→Int→Int→Rows→Rows→Rows→Rows→Rows→Rows→Rows→Rows→Rows→Rows→Rows→Rows→Rows→Rows→Rows→Int→Rows→α) (h:ny) (k before:Int):α:=
 bif Ed (Ed (Ed (Ed true (idx k h.Rx)) (inl (Int.toNat k) h.Rx)) (idx k h.Rx)) (inl (Int.toNat k) h.Rx) then
  l0 (bits .and .i64 (nL ((rI (nth h.Rx (Int.toNat k)) 6) - before)) (nL ((nL (2*(rI (nth h.Rx (Int.toNat k)) 5))) - 1))) h.Tx.Ring.qk h.Tx.Ring.nO h.Tx.Ring.Head h.Tx.Ring.wI h.Tx.oq.qk h.Tx.oq.nO h.Tx.oq.Count h.Tx.Next h.Filter.Mac h.Filter.pI h.nv.nX.Key h.qe h.Counters.Frames h.Counters.Bad h.Counters.qj h.Counters.qQ h.Counters.uf h.ox.nP h.Maps h.Tx.oq.qs h.Tx.nK h.Rx h.og h.oQ h.Filter.pV h.nv.ot h.nv.Table.nC h.nv.nX.Table h.pJ h.vM h.oF h.oY 0 h.nS
 else kf
def nbt (Y:ny→α) (N:Nat) (h:ny) (k before:Int):α:=R_ kf Y (fun n rv pZ p6 p7 p8 p9 p_ qb qc qd pj pk pn po pq pr pw pY oR oS oI oJ oK oL px py pz pA pB pC pD pE=>ze kf Y N k n rv pZ p6 p7 p8 p9 p_ qb qc qd pj pk pn po pq pr pw pY oR oS oI oJ oK oL px py pz pA pB pC pD pE N) h k before
theorem npd (Y:ny→α) (h:ny) (k before:Int) (h_h:kd ny.ct h.enc) (aP:Gx h k before=true):∃N,nbt kf Y N h k before=Y (xd h k before):=by
 have hw:=(oG (ny.nkM h_h)).2
 simp only[Gx,aw,eX] at aP
 obtain⟨h0,h1,h2,h3,h4⟩:=aP
 obtain⟨c,rfl⟩:∃c:Nat,k=(c:Int):=⟨k.toNat,by omega⟩
 have hk:c<h.Rx.length:=by simp only[len] at h1;omega
 have hv:c<h.nS.length:=by simp only[len] at h2;omega
 obtain⟨q1,q2,q3,q4,q5,q6,q7⟩:=xA h3
 have hb:=nZ.1 h4
 have hd5:rI (nth h.Rx c) 5=(evQ h (c:Int)).nO:=rfl
 have hd6:rI (nth h.Rx c) 6=(evQ h (c:Int)).Count:=rfl
 have n0:=Int.emod_nonneg ((evQ h (c:Int)).Count - before) (show 2*(evQ h (c:Int)).nO≠0 by omega)
 have n1:=Int.emod_lt_of_pos ((evQ h (c:Int)).Count - before) (show 0<2*(evQ h (c:Int)).nO by omega)
 have hE:((evQ h (c:Int)).Count - before) % (2*(evQ h (c:Int)).nO)=((evN h (c:Int) before:Nat):Int):=by unfold evN;omega
 have hN:evN h (c:Int) before≤32:=by unfold evN;omega
 have w1:nL ((evQ h (c:Int)).Count - before)=(evQ h (c:Int)).Count - before:=nF (by omega) (by omega)
 have w2:nL (2*(evQ h (c:Int)).nO)=2*(evQ h (c:Int)).nO:=nF (by omega) (by omega)
 unfold nbt R_ xd
 refine⟨40, ?_⟩
 simp only[hd5,hd6,J6,nR hk,sq hk,ng,aj]
 rw[w1,w2]
 have nBg:bits .and .i64 ((evQ h (c:Int)).Count - before) (nL (2*(evQ h (c:Int)).nO - 1))=((evN h (c:Int) before:Nat):Int):=by
  rw[←hE]
  generalize (evQ h (c:Int)).nO=S at*
  generalize (evQ h (c:Int)).Count - before=D
  rcases xu q1 with h | h | h | h<;>rw[h]
  ·exact and_3 D
  ·exact nzt D
  ·exact nzr D
  ·exact nzs D
 rw[nBg]
 have key:∀(m:Nat) (i:Nat) (v:Rows) (N:Nat),m<N→i+m=evN h (c:Int) before→v.length=h.nS.length→(∃x:nA,nth v c=x.enc)→
   ze kf Y 40 (c:Int) ((evN h (c:Int) before:Nat):Int) h.Tx.Ring.qk h.Tx.Ring.nO h.Tx.Ring.Head h.Tx.Ring.wI h.Tx.oq.qk h.Tx.oq.nO h.Tx.oq.Count h.Tx.Next h.Filter.Mac h.Filter.pI h.nv.nX.Key h.qe h.Counters.Frames h.Counters.Bad h.Counters.qj h.Counters.qQ h.Counters.uf h.ox.nP h.Maps h.Tx.oq.qs h.Tx.nK h.Rx h.og h.oQ h.Filter.pV h.nv.ot h.nv.Table.nC h.nv.nX.Table h.pJ h.vM h.oF h.oY N (i:Int) v=Y {h with nS:=itN (fun _ v=>List.set v c (npz (nth v c))) m i v} :=by
  intro m
  induction m with
  | zero=>
   intro i v N g1 g2 g3 g4
   obtain⟨N,rfl⟩:∃q,N=q+1:=⟨N - 1,by omega⟩
   rw[UH]
   have hf:decide ((i:Int)<((evN h (c:Int) before:Nat):Int))=false:=Lt (by omega)
   simp only[zf,hf,aQ,itN]
  | succ m ih=>
   intro i v N g1 g2 g3 g4
   obtain⟨N,rfl⟩:∃q,N=q+1:=⟨N - 1,by omega⟩
   rw[UH]
   have hcv:c<v.length:=by omega
   have ht:decide ((i:Int)<((evN h (c:Int) before:Nat):Int))=true:=Lu (by omega)
   have e:(nA.nc (nth v c) 0).enc=nth v c:=by obtain⟨x,hx⟩:=g4;rw[hx];rfl
   have er:bX (nth v c) 0 (nA.enc (zj (nA.nc (nth v c) 0)))=npz (nth v c):=r_ (by rw[←e];rfl)
   have this:=ih (i+1) (List.set v c (npz (nth v c))) N (by omega) (by omega) (by rw[List.length_set];exact g3) ⟨zj (nA.nc (nth v c) 0),na9 hcv _⟩
   have w3:nL ((i:Int)+1)=((i+1:Nat):Int):=by rw[nF (by omega) (by omega)];omega
   simp only[zf,ht,w3,er,J6,nR hcv,sq hcv,ng,aj]
   exact this
 have:=key (evN h (c:Int) before) 0 h.nS 40 (by omega) (by omega) rfl ⟨nA.nc (nth h.nS c) 0,(nA.eta (hw _ (sr hv))).symm⟩
 exact this
theorem WC {a b:Bool} (h:(bif a then true else b)=false):a=false∧b=false:=by cases a<;>simp_all
theorem nxC {h:ny} (hk:Tf h=true):1≤h.Rx.length∧h.Rx.length≤2∧h.og.length=h.Rx.length∧h.nS.length=h.Rx.length∧h.oQ.length=h.Rx.length∧
  ∀i,i<h.Rx.length→yi (nh.nc (nth h.Rx i) 0)=true∧tR (nJ.nc (nth h.og i) 0)=true∧tU (nA.nc (nth h.nS i) 0)=true:=by
 unfold Tf at hk
 cases h8:nsS h
 case true=>rw[h8] at hk;cases hk
 rw[h8,aQ] at hk
 cases hs:qZ h.nv (len h.Rx)
 case false=>rw[hs] at hk;cases hk
 rw[hs,aj] at hk
 cases ha:zh (fun i=>bif !(yi (nh.nc (nth h.Rx i) 0)) then true else bif !(tR (nJ.nc (nth h.og i) 0)) then true else !(tU (nA.nc (nth h.nS i) 0))) h.Rx.length 0
 case true=>rw[ha] at hk;cases hk
 unfold nsS at h8
 obtain⟨_,h8⟩:=WC h8
 obtain⟨_,h8⟩:=WC h8
 obtain⟨_,h8⟩:=WC h8
 obtain⟨_,h8⟩:=WC h8
 obtain⟨b,h8⟩:=WC h8
 obtain⟨e1,h8⟩:=WC h8
 obtain⟨e2,e3⟩:=WC h8
 have b:=nZ.1 (S5 b)
 have e1:len h.og=len h.Rx:=by simpa using e1
 have e2:len h.nS=len h.Rx:=by simpa using e2
 have e3:len h.oQ=len h.Rx:=by simpa using e3
 simp only[len] at b e1 e2 e3
 refine⟨by omega,by omega,by omega,by omega,by omega,fun i hi=> ?_⟩
 have:=U1.1 ha i (by omega) (by omega)
 obtain⟨a1,this⟩:=WC this
 obtain⟨a2,a3⟩:=WC this
 exact⟨S5 a1,S5 a2,S5 a3⟩
def nbS (Y:Bytes→Bool→α) (s:Bytes):α:=
 let z0:Bool:=decide (nL ((len s) - 4)<0)
 let z1:Bool:=Ed true (okH s (nL ((len s) - 4)))
 let z2:Bytes:=Pr s (nL ((len s) - 4))
 bif L0 z0 true (Ed z1 (ss z2)) then
  bif bif z0 then true else !((nkR z2)==s) then Y [] false
  else bif z1 then
    Y z2 true
   else kf
 else kf
def ner (s:Bytes):Bool:=decide (s.length≤1000000000)
def tT (s:Bytes):Bytes×Bool:=bif bif decide (len s<4) then true else !((nkR (Pr s (len s - 4)))==s) then ([],false) else (Pr s (len s - 4),true)
theorem npZ (Y:Bytes→Bool→α) (s:Bytes) (aP:ner s=true):nbS kf Y s=Y (tT s).1 (tT s).2:=by
 have hl:s.length≤1000000000:=of_decide_eq_true aP
 have hn:nL (len s - 4)=len s - 4:=nF (by simp only[len];omega) (by simp only[len];omega)
 have kv:(Pr s (len s - 4)).length≤s.length:=by unfold Pr;rw[List.length_drop,List.length_take];omega
 have HJ:ss (Pr s (len s - 4))=true:=Lu (by omega)
 unfold nbS tT
 dsimp only
 rw[hn]
 rw[show decide (len s - 4<0)=decide (len s<4) from decide_eq_decide.2 (by omega)]
 rw[HJ]
 by_cases h4:len s<4
 ·rw[Lu h4]
  refine nY (xt (fun _=>rfl) (fun h=>by cases h)) rfl
 ·have ho:okH s (len s - 4)=true:=by
   simp only[len] at h4
   simp only[okH,aw,eX]
   simp only[len]
   omega
  rw[Lt h4,ho]
  refine nY rfl ?_
  exact oA (K:=fun r:Bytes×Bool=>Y r.1 r.2) (fun _=>rfl) (fun _=>nY rfl rfl)
def ndw (Y:Bytes→Bool→α) (s:Bytes):α:=
 let z0:Bool:=Ed true (okH s (nL ((len s) - 4)))
 let z1:Bytes:=Pr s (nL ((len s) - 4))
 bif L0 (decide (len s<4)) true (Ed z0 (ss z1)) then
  bif bif decide (len s<4) then true else !((nkR z1)==s) then Y [] false
  else bif z0 then
    Y z1 true
   else kf
 else kf
theorem nrQ (Y:Bytes→Bool→α) (s:Bytes) (aP:ner s=true):ndw kf Y s=Y (tT s).1 (tT s).2:=by
 have hl:s.length≤1000000000:=of_decide_eq_true aP
 have hn:nL (len s - 4)=len s - 4:=nF (by simp only[len];omega) (by simp only[len];omega)
 have kv:(Pr s (len s - 4)).length≤s.length:=by unfold Pr;rw[List.length_drop,List.length_take];omega
 have HJ:ss (Pr s (len s - 4))=true:=Lu (by omega)
 unfold ndw tT
 dsimp only
 rw[hn]
 rw[HJ]
 by_cases h4:len s<4
 ·rw[Lu h4]
  refine nY (xt (fun _=>rfl) (fun h=>by cases h)) rfl
 ·have ho:okH s (len s - 4)=true:=by
   simp only[len] at h4
   simp only[okH,aw,eX]
   simp only[len]
   omega
  rw[Lt h4,ho]
  refine nY rfl ?_
  exact oA (K:=fun r:Bytes×Bool=>Y r.1 r.2) (fun _=>rfl) (fun _=>nY rfl rfl)
def ney (Y:Bool→α) (f:nE) (p:nj):α:=
 let z0:Bool:=bif p.rO==(-1) then true else nm5 f.pV p.rO
 Y (bif vh f then bif p.sK==f.Mac then z0 else bif p.sK==281474976710655 then z0 else bif f.pI then z0 else false else false)
def ngV (f:nE) (p:nj):Bool:=ney id f p
theorem nex (Y:Bool→α) (f:nE) (p:nj):ney Y f p=Y (ngV f p):=by
 rfl
def XK (Y:Bool→α) (a b bits:Int):α:=
 let z0:Bool:=decide (0≤nL (32 - bits))
 bif Ed (Ed true z0) z0 then
  Y ((wE .i64 a (nL (32 - bits)))==(wE .i64 b (nL (32 - bits))))
 else kf
def nyX (a b bits:Int):Bool:=decide (0≤nL (32 - bits))
def nuo (a b bits:Int):Bool:=(wE .i64 a (nL (32 - bits)))==(wE .i64 b (nL (32 - bits)))
theorem nlj (Y:Bool→α) (a b bits:Int) (aP:nyX a b bits=true):XK kf Y a b bits=Y (nuo a b bits):=by
 have HD:decide (0≤nL (32 - bits))=true:=aP
 unfold XK
 dsimp only
 rw[HD]
 rfl
def YA (Y:Bool→α) (r:oE) (p:nj):α:=
 let z0:Bool:=(wE .i64 r.o_ (nL (32 - r.vK)))==(wE .i64 p.o_ (nL (32 - r.vK)))
 let z1:Bool:=nf p.pG.n9 r.yw r.NP
 let z2:Bool:=decide (0≤nL (32 - r.vK))
 let z3:Bool:=Ed (Ed true z2) z2
 let z4:Bool:=L0 z0 (L0 z1 (L0 (r.rO==(-2)) z3 z3) z3) z3
 let z5:Bool:=r.Kind==p.pG.Kind
 let z6:Bool:=bif z0 then bif z1 then bif r.rO==(-2) then true else r.rO==p.rO else false else false
 bif L0 (r.Kind==0) z4 (L0 z5 z4 true) then
  Y (bif r.Kind==0 then z6 else bif z5 then z6 else false)
 else kf
def nyS (r:oE) (p:nj):Bool:=decide (0≤nL (32 - r.vK))
def Rm (r:oE) (p:nj):Bool:=bif bif r.Kind==0 then true else r.Kind==p.pG.Kind then bif nuo r.o_ p.o_ r.vK then bif nf p.pG.n9 r.yw r.NP then bif r.rO==(-2) then true else r.rO==p.rO else false else false else false
theorem nmQ (Y:Bool→α) (r:oE) (p:nj) (aP:nyS r p=true):YA kf Y r p=Y (Rm r p):=by
 have HD:decide (0≤nL (32 - r.vK))=true:=aP
 unfold YA Rm nuo
 dsimp only
 rw[HD]
 cases r.Kind==0<;>cases r.Kind==p.pG.Kind<;>simp only[ng,Pm,aj,aQ]
def Tt (Y:Bool→α) (a b:nj):α:=
 Y (bif a.sK==b.sK then bif a.sW==b.sW then bif a.rO==b.rO then bif a.Tos==b.Tos then bif a.Id==a.Id then bif a.Ttl==b.Ttl then bif a.o_==b.o_ then bif a.qm==b.qm then bif bif a.pG.Kind==b.pG.Kind then bif a.pG.om==b.pG.om then bif a.pG.n9==b.pG.n9 then bif a.pG.Seq==a.pG.Seq then bif a.pG.Ack==b.pG.Ack then bif a.pG.Flags==a.pG.Flags then bif a.pG.sw==b.pG.sw then bif a.pG.Body==a.pG.Body then true else false else false else false else false else false else false else false else false then true else false else false else false else false else false else false else false else false else false)
def NQ (a b:nj):Bool:=Tt id a b
theorem nqj (Y:Bool→α) (a b:nj):Tt Y a b=Y (NQ a b):=by
 rfl
def nd0 (Y:Bool→α) (a b:nj):α:=
 Y (bif a.sK==b.sK then bif a.sW==b.sW then bif a.rO==b.rO then bif a.Tos==b.Tos then bif (0:Int)==0 then bif a.Ttl==b.Ttl then bif a.o_==b.o_ then bif a.qm==b.qm then bif bif a.pG.Kind==b.pG.Kind then bif a.pG.om==b.pG.om then bif a.pG.n9==b.pG.n9 then bif (0:Int)==0 then bif a.pG.Ack==b.pG.Ack then bif (0:Int)==0 then bif a.pG.sw==b.pG.sw then bif ([]:Bytes)==[] then true else false else false else false else false else false else false else false else false then true else false else false else false else false else false else false else false else false else false)
theorem nsb (Y:Bool→α) (a b:nj):nd0 Y a b=Y (NQ a b):=by
 unfold nd0 NQ Tt
 have h:∀x:Int,(x==x)=true:=fun x=>beq_self_eq_true x
 have hb:∀x:Bytes,(x==x)=true:=fun x=>beq_self_eq_true x
 simp only[h,hb,aj,id]
def nhW (Y:nU→α) (p:nj):α:=
 Y (⟨p,len p.pG.Body,1⟩:nU)
def nwU (p:nj):nU:=nhW id p
theorem nhV (Y:nU→α) (p:nj):nhW Y p=Y (nwU p):=by
 rfl
def neL (Y:Int→α) (s:nB) (f:nG):α:=
 bif bif (len s.Table)==0 then true else decide (zm s.Key f<0) then Y (-1)
 else bif Ed true (!((len s.Table)==0)) then
   Y (Int.tmod (zm s.Key f) (len s.Table))
  else kf
def zH (s:nB) (f:nG):Int:=bif bif (len s.Table)==0 then true else decide (zm s.Key f<0) then -1 else Int.tmod (zm s.Key f) (len s.Table)
theorem neK (Y:Int→α) (s:nB) (f:nG):neL kf Y s f=Y (zH s f):=by
 unfold neL zH
 refine oA (fun _=>rfl) (fun hg=> ?_)
 exact nY (by rw[(WC hg).1];rfl) rfl
def ZD (Y:nj→Int→α) (s:Bytes):α:=
 let z0:nj:=(⟨0,0,0,0,0,0,0,0,(⟨0,0,0,0,0,0,0,[]⟩:nz)⟩:nj)
 bif Ed true (ner s) then
  bif !((tT s).2) then Y z0 1
  else bif ((vO ((tT s).1)).2) != 0 then Y z0 ((vO ((tT s).1)).2)
  else bif !(uJ ((vO ((tT s).1)).1)) then Y z0 5
  else Y ((vO ((tT s).1)).1) 0
 else kf
def nAV:nj:=⟨0,0,0,0,0,0,0,0,⟨0,0,0,0,0,0,0,[]⟩⟩
def qu (s:Bytes):nj×Int:=bif !(tT s).2 then (nAV,1) else bif (vO (tT s).1).2 != 0 then (nAV,(vO (tT s).1).2) else bif !(uJ (vO (tT s).1).1) then (nAV,5) else ((vO (tT s).1).1,0)
theorem ZC (Y:nj→Int→α) (s:Bytes) (aP:ner s=true):ZD kf Y s=Y (qu s).1 (qu s).2:=by
 have LA:ner s=true:=aP
 unfold ZD qu
 refine nY (rm LA) ?_
 refine oA (K:=fun r:nj×Int=>Y r.1 r.2) (fun _=>rfl) (fun _=> ?_)
 refine oA (K:=fun r:nj×Int=>Y r.1 r.2) (fun _=>rfl) (fun _=> ?_)
 exact oA (K:=fun r:nj×Int=>Y r.1 r.2) (fun _=>rfl) (fun _=>rfl)
def Vi (Y:Bool→α) (r:oE) (p:nj):α:=
 let z0:Bool:=nuo r.o_ p.o_ r.vK
 let z1:Bool:=nf p.pG.n9 r.yw r.NP
 let z2:Bool:=Ed true (nyX r.o_ p.o_ r.vK)
 let z3:Bool:=L0 z0 (L0 z1 (L0 (r.rO==(-2)) z2 z2) z2) z2
 let z4:Bool:=r.Kind==p.pG.Kind
 let z5:Bool:=bif z0 then bif z1 then bif r.rO==(-2) then true else r.rO==p.rO else false else false
 bif L0 (uQ r) (L0 (qH p) (L0 (r.Kind==0) z3 (L0 z4 z3 true)) true) true then
  Y (bif uQ r then bif qH p then bif r.Kind==0 then z5 else bif z4 then z5 else false else false else false)
 else kf
theorem nwT {r:oE} (h:uQ r=true) (h1:(r.Action==1)=false):0≤r.Queue:=by
 cases hb:nf r.Queue 0 3
 ·unfold uQ N0 at h
  simp only[id,h1,hb,aQ] at h
  revert h
  generalize (bif !(nf r.Priority 0 1000) then true else bif r.Kind != 0 then bif r.Kind != 6 then bif r.Kind != 17 then true else bif !(nf r.o_ 0 4294967295) then true else !(nf r.vK 0 32) else bif !(nf r.o_ 0 4294967295) then true else !(nf r.vK 0 32) else bif !(nf r.o_ 0 4294967295) then true else !(nf r.vK 0 32))=a
  generalize (bif decide (r.yw<0) then true else bif decide (r.NP<r.yw) then true else bif decide (65535<r.NP) then true else !(nf r.rO (-2) 4095))=b
  cases a<;>cases b<;>cases (r.Action==0)<;>simp
 ·exact (nZ.1 hb).1
def wc (r:oE) (p:nj):Bool:=bif uQ r then bif qH p then Rm r p else false else false
theorem npv {r:oE} (h:uQ r=true):0≤nL (32 - r.vK):=by
 cases hb:nf r.vK 0 32
 ·unfold uQ N0 at h
  simp only[id,hb,Bool.not_false] at h
  revert h
  cases nf r.Priority 0 1000<;>cases (r.Kind != 0)<;>cases (r.Kind != 6)<;>cases (r.Kind != 17)<;>cases nf r.o_ 0 4294967295<;>simp
 ·have:=nZ.1 hb
  rw[nF (by omega) (by omega)]
  omega
theorem njn (Y:Bool→α) (r:oE) (p:nj):Vi kf Y r p=Y (wc r p):=by
 unfold Vi wc Rm
 dsimp only
 cases hr:uQ r
 ·exact nY (xt (fun h=>by cases h) (fun _=>rfl)) rfl
 cases qH p
 ·exact nY (xt (fun _=>xt (fun h=>by cases h) (fun _=>rfl)) (fun _=>rfl)) rfl
 have hp:nyX r.o_ p.o_ r.vK=true:=Lu (npv hr)
 simp only[hp,ng,Pm,aj]
 cases r.Kind==0<;>cases r.Kind==p.pG.Kind<;>rfl
def WM (Y:Bool→α) (r:oE) (p:nj):α:=
 bif L0 (uQ r) (L0 (qH p) (Ed true (nyS r p)) true) true then
  Y (bif uQ r then bif qH p then Rm r p else false else false)
 else kf
theorem nku (Y:Bool→α) (r:oE) (p:nj):WM kf Y r p=Y (wc r p):=by
 unfold WM wc
 cases hr:uQ r
 ·exact nY (xt (fun h=>by cases h) (fun _=>rfl)) rfl
 cases qH p
 ·exact nY (xt (fun _=>xt (fun h=>by cases h) (fun _=>rfl)) (fun _=>rfl)) rfl
 have hp:nyS r p=true:=Lu (npv hr)
 simp only[hp,ng,Pm,aj]
def zO (Y:Int→α) (Z x:Rows) (oy p_1 p_2 R0 UC p_5 p_6 p_7 p_8 p_9 RT RU RV RW RX RY:Int) (RZ:Bytes) (ov:Int→Int→α) (YG oD:Int):α:=
 let z0:Bool:=wc (oE.nc (nth x (Int.toNat oD)) 0) (⟨p_1,p_2,R0,UC,p_5,p_6,p_7,p_8,(⟨p_9,RT,RU,RV,RW,RX,RY,RZ⟩:nz)⟩:nj)
 bif decide (oD<oy) then
  bif Ed true (idx oD x) then
   bif L0 z0 (L0 (decide (YG<0)) true (Ed true (idx YG Z))) true then
    ov (bif bif z0 then bif decide (YG<0) then true else decide (rI (nth x (Int.toNat oD)) 0<rI (nth Z (Int.toNat YG)) 0) else false then oD else YG) (nL (oD+1))
   else kf
  else kf
 else Y YG
def u0 (Y:Int→α) (N:Nat) (Z x:Rows) (oy p_1 p_2 R0 UC p_5 p_6 p_7 p_8 p_9 RT RU RV RW RX RY:Int) (RZ:Bytes) (m_:Nat):Int→Int→α:=
 Nat.rec (motive:=fun _=>Int→Int→α) (fun _ _=>kf) (fun _ ov=>zO kf Y Z x oy p_1 p_2 R0 UC p_5 p_6 p_7 p_8 p_9 RT RU RV RW RX RY RZ ov) m_
theorem Va (Y:Int→α) (N:Nat) (Z x:Rows) (oy p_1 p_2 R0 UC p_5 p_6 p_7 p_8 p_9 RT RU RV RW RX RY:Int) (RZ:Bytes) (m_:Nat):u0 kf Y N Z x oy p_1 p_2 R0 UC p_5 p_6 p_7 p_8 p_9 RT RU RV RW RX RY RZ (m_+1)=zO kf Y Z x oy p_1 p_2 R0 UC p_5 p_6 p_7 p_8 p_9 RT RU RV RW RX RY RZ (u0 kf Y N Z x oy p_1 p_2 R0 UC p_5 p_6 p_7 p_8 p_9 RT RU RV RW RX RY RZ m_):=rfl
def Tm (kf:α) (Y:Int→α) (l0:Rows→Int→Int→Int→Int→Int→Int→Int→Int→Int→Int→Int→Int→Int→Int→Int→Int→Bytes→Int→Int→α) (Z:Rows) (p:nj):α:=
 bif !(xC Z) then Y (-1)
 else l0 Z (len Z) p.sK p.sW p.rO p.Tos p.Id p.Ttl p.o_ p.qm p.pG.Kind p.pG.om p.pG.n9 p.pG.Seq p.pG.Ack p.pG.Flags p.pG.sw p.pG.Body (-1) 0
def nb8 (Y:Int→α) (N:Nat) (Z:Rows) (p:nj):α:=Tm kf Y (fun x oy p_1 p_2 R0 UC p_5 p_6 p_7 p_8 p_9 RT RU RV RW RX RY RZ=>u0 kf Y N Z x oy p_1 p_2 R0 UC p_5 p_6 p_7 p_8 p_9 RT RU RV RW RX RY RZ N) Z p
def frF (Z:Rows) (p:nj) (i:Nat) (b:Int):Int:=bif bif wc (oE.nc (nth Z i) 0) p then bif decide (b<0) then true else decide (rI (nth Z i) 0<rI (nth Z (Int.toNat b)) 0) else false then (i:Int) else b
def frI (i:Nat) (b:Int):Prop:=b= -1∨(0≤b∧b<(i:Int))
theorem nsR {Z:Rows} {p:nj} {i:Nat} {b:Int} (h:frI i b):frI (i+1) (frF Z p i b):=by
 unfold frF
 cases (bif wc (oE.nc (nth Z i) 0) p then bif decide (b<0) then true else decide (rI (nth Z i) 0<rI (nth Z (Int.toNat b)) 0) else false)
 ·rcases h with h | ⟨h1,h2⟩
  ·exact .inl h
  ·exact .inr ⟨h1,by simp only[aQ];omega⟩
 ·exact .inr ⟨by simp only[aj];omega,by simp only[aj];omega⟩
def uI (Z:Rows) (p:nj):Int:=bif !(xC Z) then -1 else itN (frF Z p) Z.length 0 (-1)
theorem nkP (Z:Rows) (p:nj):frI Z.length (uI Z p):=by
 unfold uI
 cases (!(xC Z))
 ·have:∀(m i:Nat) (b:Int),frI i b→frI (i+m) (itN (frF Z p) m i b):=by
   intro m
   induction m with
   | zero=>intro i b h;exact h
   | succ m ih=>intro i b h;have:=ih (i+1) _ (nsR (Z:=Z) (p:=p) h);rw[show i+(m+1)=i+1+m by omega];exact this
  have:=this Z.length 0 (-1) (.inl rfl)
  rw[Nat.zero_add] at this
  exact this
 ·exact .inl rfl
theorem np7 (Y:Int→α) (Z:Rows) (p:nj) (qh:G5 (.sl [.i,.i,.i,.i,.i,.i,.i,.i,.i]) (.sl Z)):∃N,nb8 kf Y N Z p=Y (uI Z p):=by
 obtain⟨hl,_⟩:=oG qh
 refine⟨Z.length+1, ?_⟩
 unfold nb8 Tm uI
 dsimp only
 refine oA (fun _=>rfl) (fun _=> ?_)
 refine yt Z.length (fun n i b=>u0 kf Y (Z.length+1) Z Z (len Z) p.sK p.sW p.rO p.Tos p.Id p.Ttl p.o_ p.qm p.pG.Kind p.pG.om p.pG.n9 p.pG.Seq p.pG.Ack p.pG.Flags p.pG.sw p.pG.Body n b i) (frF Z p) Y frI ?_ ?_ ?_ (Z.length+1) (-1) (.inl rfl) (by omega)
 ·intro i b hi hb
  exact nsR hb
 ·intro n i b hi hb
  show u0 kf Y (Z.length+1) Z Z (len Z) p.sK p.sW p.rO p.Tos p.Id p.Ttl p.o_ p.qm p.pG.Kind p.pG.om p.pG.n9 p.pG.Seq p.pG.Ack p.pG.Flags p.pG.sw p.pG.Body (n+1) b (i:Int)=_
  rw[Va]
  have hp:(⟨p.sK,p.sW,p.rO,p.Tos,p.Id,p.Ttl,p.o_,p.qm,⟨p.pG.Kind,p.pG.om,p.pG.n9,p.pG.Seq,p.pG.Ack,p.pG.Flags,p.pG.sw,p.pG.Body⟩⟩:nj)=p:=rfl
  have hx:L0 (decide (b<0)) true (idx b Z)=true:=xt (fun _=>rfl) (fun h=>by
   have h:=of_decide_eq_false h
   rcases hb with rfl | ⟨h1,h2⟩
   ·omega
   ·simp only[idx,aw,eX];omega)
  have hz:∀z:Bool,L0 z (L0 (decide (b<0)) true (idx b Z)) true=true:=fun z=>xt (fun _=>hx) (fun _=>rfl)
  simp only[zO,hp,oU hi,nR hi,hz,hx,Pm,ou hi hl,J6,ng,nr,aj]
  rfl
 ·intro n b hb
  show u0 kf Y (Z.length+1) Z Z (len Z) p.sK p.sW p.rO p.Tos p.Id p.Ttl p.o_ p.qm p.pG.Kind p.pG.om p.pG.n9 p.pG.Seq p.pG.Ack p.pG.Flags p.pG.sw p.pG.Body (n+1) b (Z.length:Int)=_
  rw[Va]
  simp only[zO,nQ,aQ]
def xw (Y:Int→α) (Z:Rows) (p_1 p_2 R0 UC p_5 p_6 p_7 p_8 p_9 RT RU RV RW RX RY:Int) (RZ:Bytes) (ov:Int→Int→α) (YG k:Int):α:=
 let z0:Bool:=wc (oE.nc (nth Z (Int.toNat k)) 0) (⟨p_1,p_2,R0,UC,p_5,p_6,p_7,p_8,(⟨p_9,RT,RU,RV,RW,RX,RY,RZ⟩:nz)⟩:nj)
 bif bif decide (k<len Z) then xC Z else false then
  bif L0 z0 (L0 (decide (YG<0)) (Ed true (idx k Z)) (Ed (Ed (Ed true (idx k Z)) (idx k Z)) (idx YG Z))) (Ed true (idx k Z)) then
   ov (bif bif z0 then bif decide (YG<0) then true else decide (rI (nth Z (Int.toNat k)) 0<rI (nth Z (Int.toNat YG)) 0) else false then k else YG) (nL (k+1))
  else kf
 else Y YG
def vg (Y:Int→α) (N:Nat) (Z:Rows) (p_1 p_2 R0 UC p_5 p_6 p_7 p_8 p_9 RT RU RV RW RX RY:Int) (RZ:Bytes) (m_:Nat):Int→Int→α:=
 Nat.rec (motive:=fun _=>Int→Int→α) (fun _ _=>kf) (fun _ ov=>xw kf Y Z p_1 p_2 R0 UC p_5 p_6 p_7 p_8 p_9 RT RU RV RW RX RY RZ ov) m_
theorem Po (Y:Int→α) (N:Nat) (Z:Rows) (p_1 p_2 R0 UC p_5 p_6 p_7 p_8 p_9 RT RU RV RW RX RY:Int) (RZ:Bytes) (m_:Nat):vg kf Y N Z p_1 p_2 R0 UC p_5 p_6 p_7 p_8 p_9 RT RU RV RW RX RY RZ (m_+1)=xw kf Y Z p_1 p_2 R0 UC p_5 p_6 p_7 p_8 p_9 RT RU RV RW RX RY RZ (vg kf Y N Z p_1 p_2 R0 UC p_5 p_6 p_7 p_8 p_9 RT RU RV RW RX RY RZ m_):=rfl
def TP (kf:α) (Y:Int→α) (l0:Int→Int→Int→Int→Int→Int→Int→Int→Int→Int→Int→Int→Int→Int→Int→Bytes→Int→Int→α) (Z:Rows) (p:nj):α:=
 l0 p.sK p.sW p.rO p.Tos p.Id p.Ttl p.o_ p.qm p.pG.Kind p.pG.om p.pG.n9 p.pG.Seq p.pG.Ack p.pG.Flags p.pG.sw p.pG.Body (-1) 0
def ndO (Y:Int→α) (N:Nat) (Z:Rows) (p:nj):α:=TP kf Y (fun p_1 p_2 R0 UC p_5 p_6 p_7 p_8 p_9 RT RU RV RW RX RY RZ=>vg kf Y N Z p_1 p_2 R0 UC p_5 p_6 p_7 p_8 p_9 RT RU RV RW RX RY RZ N) Z p
theorem nrZ (Y:Int→α) (Z:Rows) (p:nj) (qh:G5 (.sl [.i,.i,.i,.i,.i,.i,.i,.i,.i]) (.sl Z)):∃N,ndO kf Y N Z p=Y (uI Z p):=by
 obtain⟨hl,_⟩:=oG qh
 refine⟨Z.length+1, ?_⟩
 unfold ndO TP uI
 dsimp only
 cases hR:xC Z
 ·rw[Po]
  simp only[xw,hR]
  cases decide ((0:Int)<len Z)<;>rfl
 simp only[Bool.not_true,aQ]
 refine yt Z.length (fun n i b=>vg kf Y (Z.length+1) Z p.sK p.sW p.rO p.Tos p.Id p.Ttl p.o_ p.qm p.pG.Kind p.pG.om p.pG.n9 p.pG.Seq p.pG.Ack p.pG.Flags p.pG.sw p.pG.Body n b i) (frF Z p) Y frI ?_ ?_ ?_ (Z.length+1) (-1) (.inl rfl) (by omega)
 ·intro i b hi hb
  exact nsR hb
 ·intro n i b hi hb
  show vg kf Y (Z.length+1) Z p.sK p.sW p.rO p.Tos p.Id p.Ttl p.o_ p.qm p.pG.Kind p.pG.om p.pG.n9 p.pG.Seq p.pG.Ack p.pG.Flags p.pG.sw p.pG.Body (n+1) b (i:Int)=_
  rw[Po]
  have hp:(⟨p.sK,p.sW,p.rO,p.Tos,p.Id,p.Ttl,p.o_,p.qm,⟨p.pG.Kind,p.pG.om,p.pG.n9,p.pG.Seq,p.pG.Ack,p.pG.Flags,p.pG.sw,p.pG.Body⟩⟩:nj)=p:=rfl
  have hx:L0 (decide (b<0)) true (idx b Z)=true:=xt (fun _=>rfl) (fun h=>by
   have h:=of_decide_eq_false h
   rcases hb with rfl | ⟨h1,h2⟩
   ·omega
   ·simp only[idx,aw,eX];omega)
  have hz:∀z:Bool,L0 z (L0 (decide (b<0)) true (idx b Z)) true=true:=fun z=>xt (fun _=>hx) (fun _=>rfl)
  simp only[xw,hp,oU hi,nR hi,hz,hx,Pm,ou hi hl,J6,ng,nr,aj,hR]
  rfl
 ·intro n b hb
  show vg kf Y (Z.length+1) Z p.sK p.sW p.rO p.Tos p.Id p.Ttl p.o_ p.qm p.pG.Kind p.pG.om p.pG.n9 p.pG.Seq p.pG.Ack p.pG.Flags p.pG.sw p.pG.Body (n+1) b (Z.length:Int)=_
  rw[Po]
  simp only[xw,nQ,aQ,aj]
def nb4 (Y:Int→α) (t:ni) (f:nG):α:=
 bif !(tS t) then Y (-1)
 else Y (R4 t f)
def xc (t:ni) (f:nG):Int:=bif !(tS t) then -1 else R4 t f
theorem nkO (t:ni) (f:nG):xc t f= -1∨∃i:Nat,i<t.nC.length∧xc t f=(i:Int):=by
 unfold xc
 cases (!(tS t))
 ·rcases xD (fun _ r=>ur r f) t.nC 0 with ⟨e,_⟩ | ⟨i,hi,e,_⟩
  ·exact .inl e
  ·rw[Nat.zero_add] at e
   exact .inr ⟨i,hi,e⟩
 ·exact .inl rfl
theorem np5 (Y:Int→α) (t:ni) (f:nG):nb4 Y t f=Y (xc t f):=by
 unfold nb4 xc
 exact oA (fun _=>rfl) (fun _=>rfl)
theorem nza {t:ni} (h:tS t=true) (f:nG):UO t f=R4 t f:=by
 unfold tS at h
 cases h1:(len t.nC) != 8
 case true=>rw[h1] at h;cases h
 rw[h1,aQ] at h
 cases h2:q_ (nbF t.nC) t.nC 0
 case true=>rw[h2] at h;cases h
 have h8:t.nC.length=8:=by
  have:len t.nC=8:=by simpa using h1
  simp only[len] at this
  omega
 have hI:=Re h2
 simp only[Nat.zero_add] at hI
 have eP:∀i,i<t.nC.length→rI (nth t.nC i) 0=1→R4 t (nG.nc (nth t.nC i) 1)=(i:Int)∧nkI t.nC (i:Int) (Tc (nG.nc (nth t.nC i) 1))=false:=by
  intro i hi h1
  have:=hI i hi
  unfold nbF at this
  have e1:((rI (nth t.nC i) 0) != 1)=false:=by rw[h1];rfl
  rw[e1] at this
  obtain⟨_,this⟩:=WC this
  rw[aQ] at this
  obtain⟨a,b⟩:=WC this
  exact⟨by simpa using a,b⟩
 have kv:R4 t f=findIdx (fun _ r=>ur r f) t.nC 0:=rfl
 rcases xD (fun _ r=>ur r f) t.nC 0 with ⟨e,hn⟩ | ⟨i,hi,e,hp⟩
 ·rw[kv,e]
  have BL:∀(m k:Nat),ntv t.nC (qw f) f m k= -1:=by
   intro m
   induction m with
   | zero=>intro k;rfl
   | succ m ih=>
    intro k
    unfold ntv
    rw[show ur (nth t.nC (Int.toNat ((qw f+(k:Int)) % 8))) f=false from hn _ (by omega),ih]
    cases ((rI (nth t.nC (Int.toNat ((qw f+(k:Int)) % 8))) 0)==0)<;>rfl
  exact BL 8 0
 ·rw[Nat.zero_add] at e
  have hs:R4 t f=(i:Int):=kv.trans e
  obtain⟨u1,u2⟩:=Ps.1 hp
  have hu:∀j,j<8→ur (nth t.nC j) f=true→j=i:=by
   intro j hj hq
   obtain⟨j1,j2⟩:=Ps.1 hq
   have:=(eP j (by omega) j1).1
   rw[j2,hs] at this
   omega
  have hw:=(eP i hi u1).2
  rw[u2,npp] at hw
  rw[hs]
  have hh:=UJ f
  exact nu_ (by omega) u1 u2 hu 8 0 ⟨(((i:Int) - qw f) % 8).toNat,by omega,by omega⟩ hw
def ndK (Y:Int→α) (t:ni) (f:nG):α:=
 bif !(tS t) then Y (-1)
 else bif Ed true (nxV t f) then
   Y (UO t f)
  else kf
theorem nrX (Y:Int→α) (t:ni) (f:nG):ndK kf Y t f=Y (xc t f):=by
 unfold ndK xc
 refine oA (fun _=>rfl) (fun hg=> ?_)
 have ht:=S5 hg
 refine nY (rm ?_) (congrArg Y (nza ht f))
 unfold tS at ht
 cases h1:(len t.nC) != 8
 ·have:len t.nC=8:=by simpa using h1
  simp only[len] at this
  exact Lu (by omega)
 ·rw[h1] at ht;cases ht
def Vo (Y:Int→α) (s:nB) (nn:Int) (f:nG):α:=
 bif bif !(uK s nn) then true else decide (zH s f<0) then Y (-1)
 else bif Ed true (idx (zH s f) s.Table) then
   Y (rI (nth s.Table (Int.toNat (zH s f))) 0)
  else kf
theorem nsD {s:nB} {f:nG} (h:¬zH s f<0):zH s f<len s.Table:=by
 unfold zH at h ⊢
 cases hg:(bif (len s.Table)==0 then true else decide (zm s.Key f<0))
 ·obtain⟨h1,h2⟩:=WC hg
  have h1:len s.Table≠0:=by simpa using h1
  have h2:=of_decide_eq_false h2
  simp only[aQ]
  exact Int.tmod_lt_of_pos _ (by simp only[len] at h1 ⊢;omega)
 ·rw[hg] at h
  exact absurd (show (-1:Int)<0 by decide) h
def Pt (s:nB) (nn:Int) (f:nG):Int:=bif bif !(uK s nn) then true else decide (zH s f<0) then -1 else rI (nth s.Table (Int.toNat (zH s f))) 0
theorem Vn (Y:Int→α) (s:nB) (nn:Int) (f:nG):Vo kf Y s nn f=Y (Pt s nn f):=by
 unfold Vo Pt
 refine oA (fun _=>rfl) (fun hg=> ?_)
 refine nY (rm ?_) rfl
 have h0:=of_decide_eq_false (WC hg).2
 have h1:=nsD h0
 simp only[idx,aw,eX]
 simp only[len] at h1
 omega
def Vq (Y:Int→α) (s:nm) (nn:Int) (p:nj):α:=
 let z0:Bool:=Ed true (idx (uI s.ot p) s.ot)
 let z1:List DC:=nth s.ot (Int.toNat (uI s.ot p))
 bif bif !(qZ s nn) then true else !(qH p) then Y (-1)
 else bif decide (0≤uI s.ot p) then
  bif z0 then
   bif (rI z1 7)==1 then Y (-1)
   else bif z0 then
     Y (rI z1 8)
    else kf
  else kf
 else bif decide (0≤xc s.Table (zl p)) then
  bif Ed true (idx (xc s.Table (zl p)) s.Table.nC) then
   Y (rI (nth s.Table.nC (Int.toNat (xc s.Table (zl p)))) 6)
  else kf
 else Y (Pt s.nX nn (zl p))
def tb (s:nm) (nn:Int) (p:nj):Int:=
 bif bif !(qZ s nn) then true else !(qH p) then -1
 else bif decide (0≤uI s.ot p) then bif (rI (nth s.ot (Int.toNat (uI s.ot p))) 7)==1 then -1 else rI (nth s.ot (Int.toNat (uI s.ot p))) 8
 else bif decide (0≤xc s.Table (zl p)) then rI (nth s.Table.nC (Int.toNat (xc s.Table (zl p)))) 6
 else Pt s.nX nn (zl p)
theorem nbO (s:nm) (nn:Int) (p:nj):tb s nn p= -1∨(0≤tb s nn p∧tb s nn p<nn):=by
 unfold tb
 cases hg:(bif !(qZ s nn) then true else !(qH p))
 case true=>exact .inl rfl
 have ho:=S5 (WC hg).1
 unfold qZ at ho
 cases hq:(bif !(xC s.ot) then true else bif !(tS s.Table) then true else !(uK s.nX nn))
 case true=>rw[hq] at ho;cases ho
 rw[hq,aQ] at ho
 obtain⟨g1,g2,g3⟩:=Zg hq
 cases ha:s.ot.all (fun r=> !(decide (nn≤rI r 8)))
 case false=>rw[ha] at ho;cases ho
 rw[ha,aj] at ho
 have ha:=List.all_eq_true.1 ha
 have hb:=List.all_eq_true.1 ho
 simp only[aQ]
 by_cases h1:0≤uI s.ot p
 ·rw[Lu h1,aj]
  rcases nkP s.ot p with h2 | ⟨_,h2⟩
  ·omega
  generalize uI s.ot p=b at h1 h2
  obtain⟨i,rfl⟩:=Int.eq_ofNat_of_zero_le h1
  rw[J6]
  have hi:i<s.ot.length:=by omega
  have hr:=g1 _ (sr hi)
  have hu:=ha _ (sr hi)
  have hu:¬nn≤rI (nth s.ot i) 8:=by simpa using hu
  cases h7:(rI (nth s.ot i) 7)==1
  ·refine .inr ⟨?_,by simp only[aQ];omega⟩
   simp only[aQ]
   exact nwT hr h7
  ·exact .inl rfl
 ·rw[Lt h1,aQ]
  rcases nkO s.Table (zl p) with h2 | ⟨i,hi,h2⟩
  ·rw[h2,show decide ((0:Int)≤ -1)=false from rfl,aQ]
   unfold Pt
   cases hs:(bif !(uK s.nX nn) then true else decide (zH s.nX (zl p)<0))
   case true=>exact .inl rfl
   obtain⟨e1,e2⟩:=WC hs
   have e2:=of_decide_eq_false e2
   have e3:=nsD e2
   have e1:=S5 e1
   unfold uK at e1
   cases hx:(bif !(nf nn 1 4) then true else bif (len s.nX.Key) != 16 then true else !(UW (len s.nX.Table)))
   case true=>rw[hx] at e1;cases e1
   rw[hx,aQ] at e1
   have hq4:=nZ.1 (S5 (WC hx).1)
   simp only[len] at e3
   have e4:=List.all_eq_true.1 e1 _ (sr (a:=s.nX.Table) (i:=Int.toNat (zH s.nX (zl p))) (by omega))
   have e4:=nZ.1 e4
   rw[nF (by omega) (by omega)] at e4
   exact .inr ⟨e4.1,by simp only[aQ];omega⟩
  ·rw[h2]
   rw[Lu (show (0:Int)≤(i:Int) by omega),aj,J6]
   have hu:=hb _ (sr hi)
   have hu:¬nn≤rI (nth s.Table.nC i) 6:=by simpa using hu
   refine .inr ⟨?_,by omega⟩
   unfold tS at g2
   cases q1:(len s.Table.nC) != 8
   case true=>rw[q1] at g2;cases g2
   rw[q1,aQ] at g2
   cases q2:q_ (nbF s.Table.nC) s.Table.nC 0
   case true=>rw[q2] at g2;cases g2
   have:=Re q2 i hi
   rw[Nat.zero_add] at this
   unfold nbF at this
   have:=(WC this).1
   unfold nel at this
   exact (nZ.1 (S5 (WC this).2)).1
theorem Vp (Y:Int→α) (s:nm) (nn:Int) (p:nj):Vq kf Y s nn p=Y (tb s nn p):=by
 unfold Vq tb
 dsimp only
 refine oA (fun _=>rfl) (fun hg=> ?_)
 have h1:=nkP s.ot p
 have h2:=nkO s.Table (zl p)
 refine oA (fun h=> ?_) (fun _=> ?_)
 ·have h:=of_decide_eq_true h
  have hx:idx (uI s.ot p) s.ot=true:=by
   rcases h1 with h1 | ⟨h1,h2⟩
   ·omega
   ·simp only[idx,aw,eX];omega
  refine nY (rm hx) ?_
  exact oA (fun _=>rfl) (fun _=>nY (rm hx) rfl)
 ·refine oA (fun h=> ?_) (fun _=>rfl)
  have h:=of_decide_eq_true h
  rcases h2 with h2 | ⟨i,hi,h2⟩
  ·omega
  ·refine nY (rm ?_) rfl
   rw[h2]
   exact nR hi
def neF (Y:Bool→α) (s:nU) (p:nj):α:=
 let z0:Bool:= !(nf s.Count 1 320)
 let z1:Bool:=(Int.tmod (len s.nM.pG.Body) s.Count) != 0
 let z2:Bool:=Ed true (!(s.Count==0))
 bif bif !(qH s.nM) then true else bif !(uJ p) then true else bif !(NQ s.nM p) then true else bif p.pG.Kind != 6 then true else bif s.nM.pG.Flags != 16 then true else !(NH p.pG.Flags) then Y false
 else bif L0 (decide (s.nO<1)) true (L0 z0 true (L0 z1 z2 (Ed z2 (!(s.Count==0))))) then
   bif bif decide (s.nO<1) then true else bif z0 then true else bif z1 then true else (nL (Int.tdiv (len s.nM.pG.Body) s.Count)) != s.nO then Y false
   else Y (bif nf (len p.pG.Body) 1 s.nO then bif decide (nL ((len s.nM.pG.Body)+(len p.pG.Body))≤320) then bif p.pG.Seq==(Int.tmod (nL (s.nM.pG.Seq+(len s.nM.pG.Body))) 4294967296) then p.Id==(Int.tmod (nL (s.nM.Id+s.Count)) 65536) else false else false else false)
  else kf
theorem nph {p:nj} (h:qH p=true):p.pG.Body.length≤320:=by
 have hs:sk p.pG=true:=by
  unfold qH xo at h
  revert h
  cases nf p.sK 0 281474976710655<;>cases nf p.sW 0 281474976710655<;>cases nf p.rO (-1) 4095<;>cases nf p.Tos 0 255<;>cases nf p.Ttl 0 255<;>cases nf p.Id 0 65535<;>cases nf p.o_ 0 4294967295<;>cases nf p.qm 0 4294967295<;>cases sk p.pG<;>simp
 exact nxm hs
def cj1 (s:nU) (p:nj):Bool:=bif !(qH s.nM) then true else bif !(uJ p) then true else bif !(NQ s.nM p) then true else bif p.pG.Kind != 6 then true else bif s.nM.pG.Flags != 16 then true else !(NH p.pG.Flags)
def cjX (s:nU) (p:nj):Bool:=bif p.pG.Seq==(Int.tmod (nL (s.nM.pG.Seq+(len s.nM.pG.Body))) 4294967296) then p.Id==(Int.tmod (nL (s.nM.Id+s.Count)) 65536) else false
def cj2 (n c z m:Int):Bool:=bif !(nf z 1 320) then true else bif !(nf c 1 320) then true else bif n != nL (z*c) then true else bif !(nf m 1 z) then true else decide (320<nL (n+m))
def Oj (s:nU) (p:nj):Bool:=bif cj1 s p then false else bif cj2 (len s.nM.pG.Body) s.Count s.nO (len p.pG.Body) then false else cjX s p
theorem nAH {n c z:Int} (n0:0≤n) (n1:n≤320) (c0:1≤c) (z0:1≤z) (h:n=z*c):z≤320∧Int.tmod n c=0∧Int.tdiv n c=z:=by
 have h1:z≤n:=by
  have:=Int.mul_le_mul_of_nonneg_left c0 (show 0≤z by omega)
  rw[Int.mul_one] at this
  omega
 refine⟨by omega, ?_, ?_⟩
 ·rw[h];exact Int.mul_tmod_left z c
 ·rw[h];exact Int.mul_tdiv_cancel z (by omega)
theorem nAf {n c z m:Int} {X:Bool} (n0:0≤n) (n1:n≤320):(bif bif decide (z<1) then true else bif !(nf c 1 320) then true else bif (Int.tmod n c) != 0 then true else (nL (Int.tdiv n c)) != z then false else bif nf m 1 z then bif decide (nL (n+m)≤320) then X else false else false)=(bif cj2 n c z m then false else X):=by
 have cz:decide (320<nL (n+m))= !(decide (nL (n+m)≤320)):=by
  by_cases h:320<nL (n+m)
  ·rw[Lu h,Lt (by omega)];rfl
  ·rw[Lt h,Lu (by omega)];rfl
 unfold cj2
 rw[cz]
 by_cases z0:z<1
 ·rw[Lu z0,show nf z 1 320=false from Bool.eq_false_iff.2 (fun h=>by have:=nZ.1 h;omega)]
  rfl
 rw[Lt z0,aQ]
 cases hc:nf c 1 320
 ·cases nf z 1 320<;>rfl
 have hc:=nZ.1 hc
 by_cases h:n=z*c
 ·obtain⟨h1,h2,h3⟩:=nAH n0 n1 hc.1 (by omega) h
  rw[show nf z 1 320=true from nZ.2 ⟨by omega,h1⟩,h2,h3,←h,nF (n:=n) (by omega) (by omega),nF (n:=z) (by omega) (by omega)]
  simp only[bne_self_eq_false,Bool.not_true,aQ]
  cases nf m 1 z<;>cases decide (nL (n+m)≤320)<;>rfl
 ·have e1:(bif (Int.tmod n c) != 0 then true else (nL (Int.tdiv n c)) != z)=true:=by
   cases h1:(Int.tmod n c) != 0
   ·have h1:Int.tmod n c=0:=by simpa using h1
    cases h2:(nL (Int.tdiv n c)) != z
    ·have h2:nL (Int.tdiv n c)=z:=by simpa using h2
     have h3:0≤Int.tdiv n c:=Int.tdiv_nonneg n0 (by omega)
     have h4:Int.tdiv n c≤n:=by rw[Int.tdiv_eq_ediv_of_nonneg n0];exact Int.ediv_le_self c n0
     rw[nF (by omega) (by omega)] at h2
     have h5:=Int.mul_tdiv_add_tmod n c
     rw[h1,h2,Int.add_zero,Int.mul_comm] at h5
     exact absurd h5.symm h
    ·rfl
   ·rfl
  have e2:nf z 1 320=true→(n != nL (z*c))=true:=fun h1=>by
   have h1:=nZ.1 h1
   have h2:z*c≤320*320:=Int.mul_le_mul h1.2 hc.2 (by omega) (by omega)
   have h3:0≤z*c:=Int.mul_nonneg (by omega) (by omega)
   rw[nF (by omega) (by omega)]
   simpa using h
  simp only[Bool.not_true,aQ,e1,aj]
  cases h1:nf z 1 320
  ·rfl
  ·rw[e2 h1];rfl
theorem nu7 {p:nj} (h:qH p=true):0≤len p.pG.Body∧len p.pG.Body≤320:=by
 have:=nph h
 simp only[len]
 omega
theorem nsV (Y:Bool→α) (s:nU) (p:nj):neF kf Y s p=Y (Oj s p):=by
 unfold neF Oj
 try dsimp only
 rw[show (bif !(qH s.nM) then true else bif !(uJ p) then true else bif !(NQ s.nM p) then true else bif p.pG.Kind != 6 then true else bif s.nM.pG.Flags != 16 then true else !(NH p.pG.Flags))=cj1 s p from rfl]
 refine oA (fun _=>rfl) (fun hg=> ?_)
 have hn:=nu7 (S5 (WC hg).1)
 have hz:L0 (!(nf s.Count 1 320)) true (L0 ((Int.tmod (len s.nM.pG.Body) s.Count) != 0) (Ed true (!(s.Count==0))) (Ed (Ed true (!(s.Count==0))) (!(s.Count==0))))=true:=by
  refine xt (fun _=>rfl) (fun h=> ?_)
  have h:=nZ.1 (S5 h)
  have h1:(!(s.Count==0))=true:=by simp;omega
  rw[h1]
  exact xt (fun _=>rfl) (fun _=>rfl)
 refine nY (xt (fun _=>rfl) (fun _=>hz)) ?_
 rw[←nAf (n:=len s.nM.pG.Body) (c:=s.Count) (z:=s.nO) (m:=len p.pG.Body) (X:=cjX s p) hn.1 hn.2]
 exact oA (fun _=>rfl) (fun _=>rfl)
def nf5 (Y:Bool→α) (s:nU) (p:nj):α:=
 bif bif !(qH s.nM) then true else bif !(uJ p) then true else bif !(NQ s.nM p) then true else bif p.pG.Kind != 6 then true else bif s.nM.pG.Flags != 16 then true else (bits .andNot .i64 p.pG.Flags 9) != 16 then Y false
 else bif bif !(nf s.nO 1 320) then true else bif !(nf s.Count 1 320) then true else bif (len s.nM.pG.Body) != (nL (s.nO*s.Count)) then true else bif !(nf (len p.pG.Body) 1 s.nO) then true else decide (320<nL ((len s.nM.pG.Body)+(len p.pG.Body))) then Y false
 else Y (bif p.pG.Seq==(Int.tmod (nL (s.nM.pG.Seq+(len s.nM.pG.Body))) 4294967296) then p.Id==(Int.tmod (nL (s.nM.Id+s.Count)) 65536) else false)
theorem nus (Y:Bool→α) (s:nU) (p:nj):nf5 Y s p=Y (Oj s p):=by
 unfold nf5 Oj
 try dsimp only
 rw[show (bif !(qH s.nM) then true else bif !(uJ p) then true else bif !(NQ s.nM p) then true else bif p.pG.Kind != 6 then true else bif s.nM.pG.Flags != 16 then true else (bits .andNot .i64 p.pG.Flags 9) != 16)=cj1 s p from by
  unfold cj1
  cases qH s.nM
  ·rfl
  cases hp:uJ p
  ·rfl
  cases NQ s.nM p
  ·rfl
  cases h6:p.pG.Kind != 6
  ·have h6:(p.pG.Kind==6)=true:=by simpa using h6
   have hs:sk p.pG=true:=by
    unfold uJ Ov at hp
    cases hq:qH p
    ·rw[hq] at hp;cases hp
    ·unfold qH xo at hq
     revert hq
     cases nf p.sK 0 281474976710655<;>cases nf p.sW 0 281474976710655<;>cases nf p.rO (-1) 4095<;>cases nf p.Tos 0 255<;>cases nf p.Ttl 0 255<;>cases nf p.Id 0 65535<;>cases nf p.o_ 0 4294967295<;>cases nf p.qm 0 4294967295<;>cases sk p.pG<;>simp
   rw[show ((bits .andNot .i64 p.pG.Flags 9) != 16)= !((bits .andNot .i64 p.pG.Flags 9)==16) from rfl,nmT (nwJ hs h6)]
  ·rfl]
 refine oA (fun _=>rfl) (fun hg=> ?_)
 have hn:=nu7 (S5 (WC hg).1)
 exact oA (fun _=>rfl) (fun _=>rfl)
def npD (Y:nU→α) (s:nU) (p:nj):α:=
 bif !(Oj s p) then Y s
 else bif Ed true (oz s.nM.pG.Body p.pG.Body) then
   Y (⟨(⟨s.nM.sK,s.nM.sW,s.nM.rO,s.nM.Tos,s.nM.Id,s.nM.Ttl,s.nM.o_,s.nM.qm,(⟨s.nM.pG.Kind,s.nM.pG.om,s.nM.pG.n9,s.nM.pG.Seq,s.nM.pG.Ack,p.pG.Flags,s.nM.pG.sw,s.nM.pG.Body++p.pG.Body⟩:nz)⟩:nj),s.nO,nL (s.Count+1)⟩:nU)
  else kf
def nzq (s:nU) (p:nj):nU:=bif !(Oj s p) then s else {s with nM:= {s.nM with pG:= {s.nM.pG with Flags:=p.pG.Flags,Body:=s.nM.pG.Body++p.pG.Body} },Count:=nL (s.Count+1)}
theorem npC (Y:nU→α) (s:nU) (p:nj):npD kf Y s p=Y (nzq s p):=by
 unfold npD nzq
 refine oA (fun _=>rfl) (fun hg=> ?_)
 have hj:=S5 hg
 unfold Oj at hj
 cases hc:cj1 s p
 case true=>rw[hc] at hj;cases hj
 unfold cj1 at hc
 obtain⟨h1,hc⟩:=WC hc
 have h1:=nph (S5 h1)
 have h2:p.pG.Body.length≤320:=nph (by
  have hp:=S5 (WC hc).1
  unfold uJ Ov at hp
  cases hq:qH p
  ·rw[hq] at hp;cases hp
  ·rfl)
 exact nY (rm (Lu (by omega))) rfl
def SW (Y:na→nh→α) (Z:Rows) (m:na) (O:Int) (q:nh) (key:Bytes) (p:nj) (vk:Bool):α:=
 let z0:na×nh:=qn Z m O q key
 let z1:nh:=(⟨z0.2.Ring,z0.2.Device,z0.2.Driver,nwU p,true,z0.2.vJ⟩:nh)
 let z2:na×nh:=qn Z z0.1 O z1 key
 bif bif !(yi q) then true else bif !(uJ p) then true else (len key) != 16 then
  bif Ed true (sJ m) then
   Y (n7 m) q
  else kf
 else bif bif vk then bif q.sV then Oj q.ql p else false else false then
  bif Ed true (sJ m) then
   Y (n7 m) (⟨q.Ring,q.Device,q.Driver,nzq q.ql p,q.sV,q.vJ⟩:nh)
  else kf
 else bif Ed true (net Z m O q key) then
   bif !vk then
    bif Ed true (net Z z0.1 O z1 key) then
     Y z2.1 z2.2
    else kf
   else Y z0.1 z1
  else kf
def nz2 (z:na×nh) (p:nj):nh:=⟨z.2.Ring,z.2.Device,z.2.Driver,nwU p,true,z.2.vJ⟩
def nwI {α β γ δ:Type} (Z:Rows) (m:na) (O:Int) (q:α) (key:β) (p:γ) (vk:δ):Bool:=sJ m
def sD (Z:Rows) (m:na) (O:Int) (q:nh) (key:Bytes) (p:nj) (vk:Bool):na×nh:=
 bif bif !(yi q) then true else bif !(uJ p) then true else (len key) != 16 then (m,q)
 else bif bif vk then bif q.sV then Oj q.ql p else false else false then (m,⟨q.Ring,q.Device,q.Driver,nzq q.ql p,q.sV,q.vJ⟩)
 else bif !vk then qn Z (qn Z m O q key).1 O (nz2 (qn Z m O q key) p) key
 else ((qn Z m O q key).1,nz2 (qn Z m O q key) p)
theorem ni6 (l:Rows) (m:na) (d:Int) (q:nh) (key:Bytes) (p:nj) (c:Bool):(sD l m d q key p c).1.nP.length=m.nP.length:=by
 unfold sD
 cases (bif !(yi q) then true else bif !(uJ p) then true else (len key) != 16)
 ·cases (bif c then bif q.sV then Oj q.ql p else false else false)
  ·cases c
   ·exact (PG _ _ _ _ _).trans (PG _ _ _ _ _)
   ·exact PG _ _ _ _ _
  ·rfl
 ·rfl
theorem npT {l:Rows} {m:na} {d:Int} {q:nh} {key:Bytes} {p:nj} {c:Bool} (h:qD q.Device=true):qD (sD l m d q key p c).2.Device=true:=by
 unfold sD
 cases (bif !(yi q) then true else bif !(uJ p) then true else (len key) != 16)
 ·cases (bif c then bif q.sV then Oj q.ql p else false else false)
  ·cases c
   ·exact neo (neo h)
   ·exact neo h
  ·exact h
 ·exact h
theorem SU (Y:na→nh→α) (Z:Rows) (m:na) (O:Int) (q:nh) (key:Bytes) (p:nj) (vk:Bool) (aP:nwI Z m O q key p vk=true):SW kf Y Z m O q key p vk=Y (sD Z m O q key p vk).1 (sD Z m O q key p vk).2:=by
 have hm:sJ m=true:=aP
 have hf:∀(q:nh),net Z m O q key=true:=fun _=>hm
 have hf2:∀(q2:nh),net Z (qn Z m O q key).1 O q2 key=true:=fun _=>Lu (by rw[PG];exact uy hm)
 unfold SW sD
 dsimp only
 refine oA (K:=fun r:na×nh=>Y r.1 r.2) (fun _=>nY (rm hm) rfl) (fun _=> ?_)
 refine oA (K:=fun r:na×nh=>Y r.1 r.2) (fun _=>nY (rm hm) rfl) (fun _=> ?_)
 refine nY (rm (hf _)) ?_
 exact oA (K:=fun r:na×nh=>Y r.1 r.2) (fun _=>nY (rm (hf2 _)) rfl) (fun _=>rfl)
def Vg (Y:ny→α) (h:ny) (frame:Bytes):α:=
 let z0:Int:=nL ((((n7 h).Counters).Frames)+1)
 let z1:Int:=tb h.nv (len h.Rx) ((qu frame).1)
 let z2:Bool:=Ed true (idx z1 h.Rx)
 let z3:Nat:=Int.toNat z1
 let z4:List DC:=nth h.Rx z3
 let z5:nh:=nh.nc z4 0
 let z6:na×nh:=sD h.Maps h.ox 0 z5 h.nv.nX.Key ((qu frame).1) h.qe
 let z7:nh:=z6.2
 let z8:n8:=z7.Ring
 let z9:nd:=z7.Device
 let z10:nd:=z7.Driver
 let z11:nU:=z7.ql
 let z12:nj:=z11.nM
 let z13:nz:=z12.pG
 let z14:ny:=(⟨z6.1,(n7 h).Maps,(n7 h).Tx,List.set ((n7 h).Rx) z3 (bX (nth ((n7 h).Rx) z3) 0 (nh.enc z7)),(n7 h).og,(n7 h).nS,(n7 h).oQ,(n7 h).Filter,(n7 h).nv,(n7 h).pJ,(n7 h).qe,(n7 h).vM,(n7 h).oF,(n7 h).oY,(⟨z0,((n7 h).Counters).Bad,((n7 h).Counters).qj,((n7 h).Counters).qQ,nL ((((n7 h).Counters).uf)+1)⟩:nV)⟩:ny)
 let z15:Int:=rI z4 6
 bif Ed true (xh h) then
  bif Ed true (njb h) then
   bif !(Tf h) then Y (n7 h)
   else bif Ed true (ner frame) then
     bif ((qu frame).2) != 0 then Y (⟨(n7 h).ox,(n7 h).Maps,(n7 h).Tx,(n7 h).Rx,(n7 h).og,(n7 h).nS,(n7 h).oQ,(n7 h).Filter,(n7 h).nv,(n7 h).pJ,(n7 h).qe,(n7 h).vM,(n7 h).oF,(n7 h).oY,(⟨z0,nL ((((n7 h).Counters).Bad)+1),((n7 h).Counters).qj,((n7 h).Counters).qQ,((n7 h).Counters).uf⟩:nV)⟩:ny)
     else bif !(ngV h.Filter ((qu frame).1)) then Y (⟨(n7 h).ox,(n7 h).Maps,(n7 h).Tx,(n7 h).Rx,(n7 h).og,(n7 h).nS,(n7 h).oQ,(n7 h).Filter,(n7 h).nv,(n7 h).pJ,(n7 h).qe,(n7 h).vM,(n7 h).oF,(n7 h).oY,(⟨z0,((n7 h).Counters).Bad,nL ((((n7 h).Counters).qj)+1),((n7 h).Counters).qQ,((n7 h).Counters).uf⟩:nV)⟩:ny)
     else bif z1==(-1) then Y (⟨(n7 h).ox,(n7 h).Maps,(n7 h).Tx,(n7 h).Rx,(n7 h).og,(n7 h).nS,(n7 h).oQ,(n7 h).Filter,(n7 h).nv,(n7 h).pJ,(n7 h).qe,(n7 h).vM,(n7 h).oF,(n7 h).oY,(⟨z0,((n7 h).Counters).Bad,((n7 h).Counters).qj,nL ((((n7 h).Counters).qQ)+1),((n7 h).Counters).uf⟩:nV)⟩:ny)
     else bif Ed (Ed (Ed z2 (nwI h.Maps h.ox 0 z5 h.nv.nX.Key ((qu frame).1) h.qe)) (idx z1 ((n7 h).Rx))) (inl z3 ((n7 h).Rx)) then
       bif Ed z2 (Gx z14 z1 z15) then
        Y (xd z14 z1 z15)
       else kf
      else kf
    else kf
  else kf
 else kf
def hrK (h:ny) (frame:Bytes):Int:=tb h.nv (len h.Rx) (qu frame).1
def hrP (h:ny) (frame:Bytes):na×nh:=sD h.Maps h.ox 0 (nh.nc (nth h.Rx (hrK h frame).toNat) 0) h.nv.nX.Key (qu frame).1 h.qe
def hrM (h:ny) (frame:Bytes):ny:= {h with ox:=(hrP h frame).1,Rx:=List.set h.Rx (hrK h frame).toNat (nh.enc (hrP h frame).2),Counters:=⟨nL (h.Counters.Frames+1),h.Counters.Bad,h.Counters.qj,h.Counters.qQ,nL (h.Counters.uf+1)⟩}
def tn (h:ny) (frame:Bytes):Bool:=xh h && (njb h && ner frame)
def pU (h:ny) (frame:Bytes):ny:=
 bif !(Tf h) then h
 else bif (qu frame).2 != 0 then {h with Counters:=⟨nL (h.Counters.Frames+1),nL (h.Counters.Bad+1),h.Counters.qj,h.Counters.qQ,h.Counters.uf⟩}
 else bif !(ngV h.Filter (qu frame).1) then {h with Counters:=⟨nL (h.Counters.Frames+1),h.Counters.Bad,nL (h.Counters.qj+1),h.Counters.qQ,h.Counters.uf⟩}
 else bif decide (hrK h frame<0) then {h with Counters:=⟨nL (h.Counters.Frames+1),h.Counters.Bad,h.Counters.qj,nL (h.Counters.qQ+1),h.Counters.uf⟩}
 else xd (hrM h frame) (hrK h frame) (rI (nth h.Rx (hrK h frame).toNat) 6)
theorem nAC {h:ny} {frame:Bytes} (hk:Tf h=true) (hr:0≤hrK h frame∧hrK h frame<len h.Rx):Gx (hrM h frame) (hrK h frame) (rI (nth h.Rx (hrK h frame).toNat) 6)=true:=by
 obtain⟨_,n2,r1,r2,r3,r4⟩:=nxC hk
 obtain⟨c,hc⟩:∃c:Nat,hrK h frame=(c:Int):=⟨(hrK h frame).toNat,by omega⟩
 have hi:c<h.Rx.length:=by rw[hc] at hr;simp only[len] at hr;omega
 have hq:=(nmx (r4 c hi).1).1
 obtain⟨q1,q2,q3,q4,q5,q6,q7⟩:=xA hq
 have Ak:evQ (hrM h frame) (hrK h frame)=(hrP h frame).2.Device:=by
  show (nh.nc (nth (List.set h.Rx (hrK h frame).toNat (nh.enc (hrP h frame).2)) (hrK h frame).toNat) 0).Device=_
  rw[na9 (by rw[hc,J6];exact hi)]
  rfl
 simp only[Gx,aw,eX]
 refine⟨hr.1, ?_, ?_, ?_, ?_⟩
 ·show hrK h frame<len (List.set h.Rx _ _)
  simp only[len,List.length_set];exact hr.2
 ·show hrK h frame<len h.nS
  have:=hr.2
  simp only[len] at this ⊢;omega
 ·rw[Ak]
  refine npT ?_
  rw[hc,J6]
  exact hq
 ·rw[hc,J6]
  exact nZ.2 ⟨q4,by show (nh.nc (nth h.Rx c) 0).Device.Count≤31;omega⟩
theorem nxI (c:Nat):∀(m i:Nat) (v:Rows),(itN (fun _ v=>List.set v c (npz (nth v c))) m i v).length=v.length
 | 0,_,_=>rfl
 | m+1,i,v=>(nxI c m (i+1) _).trans (List.length_set ..)
theorem nsE {h:ny} {frame:Bytes} (hs:xh h=true):xh (pU h frame)=true:=by
 unfold pU
 cases (!(Tf h))
 case true=>exact hs
 cases ((qu frame).2 != 0)
 case true=>exact hs
 cases (!(ngV h.Filter (qu frame).1))
 case true=>exact hs
 cases decide (hrK h frame<0)
 case true=>exact hs
 simp only[aQ]
 simp only[xh,aw,sm,eX] at hs ⊢
 have e1:(xd (hrM h frame) (hrK h frame) (rI (nth h.Rx (hrK h frame).toNat) 6)).ox.nP.length=h.ox.nP.length:=ni6 _ _ _ _ _ _ _
 have e2:(xd (hrM h frame) (hrK h frame) (rI (nth h.Rx (hrK h frame).toNat) 6)).Rx.length=h.Rx.length:=List.length_set ..
 have e3:(xd (hrM h frame) (hrK h frame) (rI (nth h.Rx (hrK h frame).toNat) 6)).nS.length=h.nS.length:=nxI _ _ _ _
 rw[e1,e2,e3]
 exact hs
theorem njj (Y:ny→α) (h:ny) (frame:Bytes) (h_h:kd ny.ct h.enc) (aP:tn h frame=true):Vg kf Y h frame=Y (pU h frame):=by
 obtain⟨hl,hw⟩:=oG (ny.nAd h_h)
 have HD:=aP
 simp only[tn,aw] at HD
 obtain⟨s,b,LA⟩:=HD
 have s':=s
 simp only[xh,aw] at s'
 have s0:=uy s'.1
 unfold Vg pU
 rw[show n7 h=h from rfl]
 dsimp only
 refine nY (rm s) (nY (rm b) ?_)
 refine oA (fun _=>rfl) (fun hg=> ?_)
 have hk:=S5 hg
 refine nY (rm LA) ?_
 refine oA (fun _=>rfl) (fun _=> ?_)
 refine oA (fun _=>rfl) (fun _=> ?_)
 have hr:=nbO h.nv (len h.Rx) (qu frame).1
 rw[show (tb h.nv (len h.Rx) (qu frame).1==(-1))=decide (hrK h frame<0) from by
  unfold hrK
  rcases hr with hr | hr
  ·rw[hr];rfl
  ·rw[Lt (by omega)]
   exact Bool.eq_false_iff.2 (fun h=>by have:=eq_of_beq h;omega)]
 refine oA (fun _=>rfl) (fun nw3=> ?_)
 have nw3:=of_decide_eq_false nw3
 have hr:0≤hrK h frame∧hrK h frame<len h.Rx:=by
  rcases hr with hr | hr
  ·exact absurd (show hrK h frame<0 by unfold hrK;omega) nw3
  ·exact hr
 obtain⟨c,hc⟩:∃c:Nat,hrK h frame=(c:Int):=⟨(hrK h frame).toNat,by omega⟩
 have Ak:=nAC (frame:=frame) hk hr
 have JH:tb h.nv (len h.Rx) (qu frame).1=(c:Int):=hc
 have hi:c<h.Rx.length:=by rw[hc] at hr;simp only[len] at hr;omega
 have e:=congrArg List.length (nh.eta (hw _ (sr hi)))
 have er:∀q:nh,bX (nth h.Rx c) 0 (nh.enc q)=nh.enc q:=fun q=>r_ (e.symm.trans rfl)
 unfold hrM hrP at Ak ⊢
 rw[hc,J6] at Ak
 rw[hc,JH,J6,er]
 have hrp:∀(q:nh),nwI h.Maps h.ox 0 q h.nv.nX.Key (qu frame).1 h.qe=true:=fun _=>Lu s0
 refine nY (by rw[nR hi,sq hi,hrp];rfl) ?_
 exact nY (by rw[nR hi,ng];exact rm Ak) rfl
def WK (Y:ny→α) (h:ny) (frame:Bytes):α:=
 let z0:Int:=nL ((((n7 h).Counters).Frames)+1)
 let z1:Int:=tb h.nv (len h.Rx) ((qu frame).1)
 let z2:Bool:=Ed true (idx z1 h.Rx)
 let z3:Nat:=Int.toNat z1
 let z4:List DC:=nth h.Rx z3
 let z5:nh:=nh.nc z4 0
 let z6:na×nh:=sD h.Maps h.ox 0 z5 h.nv.nX.Key ((qu frame).1) h.qe
 let z7:nh:=z6.2
 let z8:n8:=z7.Ring
 let z9:nd:=z7.Device
 let z10:nd:=z7.Driver
 let z11:nU:=z7.ql
 let z12:nj:=z11.nM
 let z13:nz:=z12.pG
 let z14:ny:=(⟨z6.1,(n7 h).Maps,(n7 h).Tx,List.set ((n7 h).Rx) z3 (bX (nth ((n7 h).Rx) z3) 0 (nh.enc z7)),(n7 h).og,(n7 h).nS,(n7 h).oQ,(n7 h).Filter,(n7 h).nv,(n7 h).pJ,(n7 h).qe,(n7 h).vM,(n7 h).oF,(n7 h).oY,(⟨z0,((n7 h).Counters).Bad,((n7 h).Counters).qj,((n7 h).Counters).qQ,nL ((((n7 h).Counters).uf)+1)⟩:nV)⟩:ny)
 let z15:Int:=rI z4 6
 bif Ed true (xh h) then
  bif Ed true (njb h) then
   bif !(Tf h) then Y (n7 h)
   else bif Ed true (ner frame) then
     bif ((qu frame).2) != 0 then Y (⟨(n7 h).ox,(n7 h).Maps,(n7 h).Tx,(n7 h).Rx,(n7 h).og,(n7 h).nS,(n7 h).oQ,(n7 h).Filter,(n7 h).nv,(n7 h).pJ,(n7 h).qe,(n7 h).vM,(n7 h).oF,(n7 h).oY,(⟨z0,nL ((((n7 h).Counters).Bad)+1),((n7 h).Counters).qj,((n7 h).Counters).qQ,((n7 h).Counters).uf⟩:nV)⟩:ny)
     else bif !(ngV h.Filter ((qu frame).1)) then Y (⟨(n7 h).ox,(n7 h).Maps,(n7 h).Tx,(n7 h).Rx,(n7 h).og,(n7 h).nS,(n7 h).oQ,(n7 h).Filter,(n7 h).nv,(n7 h).pJ,(n7 h).qe,(n7 h).vM,(n7 h).oF,(n7 h).oY,(⟨z0,((n7 h).Counters).Bad,nL ((((n7 h).Counters).qj)+1),((n7 h).Counters).qQ,((n7 h).Counters).uf⟩:nV)⟩:ny)
     else bif decide (z1<0) then Y (⟨(n7 h).ox,(n7 h).Maps,(n7 h).Tx,(n7 h).Rx,(n7 h).og,(n7 h).nS,(n7 h).oQ,(n7 h).Filter,(n7 h).nv,(n7 h).pJ,(n7 h).qe,(n7 h).vM,(n7 h).oF,(n7 h).oY,(⟨z0,((n7 h).Counters).Bad,((n7 h).Counters).qj,nL ((((n7 h).Counters).qQ)+1),((n7 h).Counters).uf⟩:nV)⟩:ny)
     else bif Ed z2 (nwI h.Maps h.ox 0 z5 h.nv.nX.Key ((qu frame).1) h.qe) then
       bif Ed (Ed true (idx z1 ((n7 h).Rx))) (inl z3 ((n7 h).Rx)) then
        bif Ed z2 (Gx z14 z1 z15) then
         Y (xd z14 z1 z15)
        else kf
       else kf
      else kf
    else kf
  else kf
 else kf
theorem nkn (Y:ny→α) (h:ny) (frame:Bytes) (h_h:kd ny.ct h.enc) (aP:tn h frame=true):WK kf Y h frame=Y (pU h frame):=by
 obtain⟨hl,hw⟩:=oG (ny.nAd h_h)
 have HD:=aP
 simp only[tn,aw] at HD
 obtain⟨s,b,LA⟩:=HD
 have s':=s
 simp only[xh,aw] at s'
 have s0:=uy s'.1
 unfold WK pU
 rw[show n7 h=h from rfl]
 dsimp only
 refine nY (rm s) (nY (rm b) ?_)
 refine oA (fun _=>rfl) (fun hg=> ?_)
 have hk:=S5 hg
 refine nY (rm LA) ?_
 refine oA (fun _=>rfl) (fun _=> ?_)
 refine oA (fun _=>rfl) (fun _=> ?_)
 have hr:=nbO h.nv (len h.Rx) (qu frame).1
 refine oA (fun _=>rfl) (fun nw3=> ?_)
 have nw3:=of_decide_eq_false nw3
 have hr:0≤hrK h frame∧hrK h frame<len h.Rx:=by
  rcases hr with hr | hr
  ·exact absurd (show hrK h frame<0 by unfold hrK;omega) nw3
  ·exact hr
 obtain⟨c,hc⟩:∃c:Nat,hrK h frame=(c:Int):=⟨(hrK h frame).toNat,by omega⟩
 have Ak:=nAC (frame:=frame) hk hr
 have JH:tb h.nv (len h.Rx) (qu frame).1=(c:Int):=hc
 have hi:c<h.Rx.length:=by rw[hc] at hr;simp only[len] at hr;omega
 have e:=congrArg List.length (nh.eta (hw _ (sr hi)))
 have er:∀q:nh,bX (nth h.Rx c) 0 (nh.enc q)=nh.enc q:=fun q=>r_ (e.symm.trans rfl)
 unfold hrM hrP at Ak ⊢
 rw[hc,J6] at Ak
 rw[hc,JH,J6,er]
 have hrp:∀(q:nh),nwI h.Maps h.ox 0 q h.nv.nX.Key (qu frame).1 h.qe=true:=fun _=>Lu s0
 refine nY (by rw[nR hi,hrp];rfl) (nY (by rw[nR hi,sq hi];rfl) ?_)
 exact nY (by rw[nR hi,ng];exact rm Ak) rfl
def NJ (Y:Bool→α) (aH:ny) (tq:Bytes):α:=
 let z0:Bool:=Ed (Ed true (tw aH)) (tn (n7 aH) tq)
 let z1:Bool:=Ed true (same (pU (n7 aH) tq) (pU (n7 aH) tq))
 let z2:Bool:= !(pd (pU (n7 aH) tq) (pU (n7 aH) tq))
 let z3:Bool:=decide ((pK (n7 aH) 1).1<0)
 let z4:Int×Rows×Rows×Rows×Rows×Rows×Rows×Rows×Rows×Rows×Rows×Rows×Rows×Rows×Rows×Rows×Rows:=pK (pU (n7 aH) tq) 1
 let z5:ny:=(⟨(⟨z4.2.1⟩:na),z4.2.2.1,(⟨((pU (n7 aH) tq).Tx).Ring,(⟨(((pU (n7 aH) tq).Tx).oq).qk,(((pU (n7 aH) tq).Tx).oq).nO,(((pU (n7 aH) tq).Tx).oq).Count,z4.2.2.2.1⟩:nJ),z4.2.2.2.2.1,((pU (n7 aH) tq).Tx).Next⟩:nt),z4.2.2.2.2.2.1,z4.2.2.2.2.2.2.1,z4.2.2.2.2.2.2.2.1,z4.2.2.2.2.2.2.2.2.1,(⟨((pU (n7 aH) tq).Filter).Mac,((pU (n7 aH) tq).Filter).pI,z4.2.2.2.2.2.2.2.2.2.1⟩:nE),(⟨z4.2.2.2.2.2.2.2.2.2.2.1,(⟨z4.2.2.2.2.2.2.2.2.2.2.2.1⟩:ni),(⟨(((pU (n7 aH) tq).nv).nX).Key,z4.2.2.2.2.2.2.2.2.2.2.2.2.1⟩:nB)⟩:nm),z4.2.2.2.2.2.2.2.2.2.2.2.2.2.1,(pU (n7 aH) tq).qe,z4.2.2.2.2.2.2.2.2.2.2.2.2.2.2.1,z4.2.2.2.2.2.2.2.2.2.2.2.2.2.2.2.1,z4.2.2.2.2.2.2.2.2.2.2.2.2.2.2.2.2,(pU (n7 aH) tq).Counters⟩:ny)
 let z6:Bool:=Ed true (Pv z5 1)
 let z7:Int:=Zj z5 1
 let z8:Bool:=decide (z7<0)
 let z9:Bool:=z7 != z4.1
 bif decide (1048576<len tq) then Y true
 else bif decide (wA aH 1048576<0) then Y true
 else bif z0 then
   bif Ed true (tw aH) then
    bif Ed true (tn (n7 aH) tq) then
     bif z1 then
      bif z2 then Y false
      else bif Ed (Ed true (tw aH)) (same (n7 aH) (n7 aH)) then
        bif !(pd (n7 aH) (n7 aH)) then Y false
        else bif Ed true (zy (n7 aH) 1) then
          bif L0 z3 true z1 then
           bif bif z3 then true else z2 then Y false
           else bif Ed true (zy (pU (n7 aH) tq) 1) then
             bif z6 then
              bif z8 then Y false
              else bif z9 then Y false
              else bif z0 then
                bif z1 then
                 bif z2 then Y false
                 else bif z6 then
                   bif z8 then Y false
                   else bif z9 then Y false
                   else Y true
                  else kf
                else kf
               else kf
             else kf
            else kf
          else kf
         else kf
       else kf
     else kf
    else kf
   else kf
  else kf
theorem W_ (Y:Bool→α) (aH:ny) (tq:Bytes) (nAk:kd ny.ct aH.enc) (nxK:G5 .str (.str tq)) (aP:W9 (ny.ct++(.str::([]))) (aH.enc++(.str tq::([])))=true):NJ kf Y aH tq=Y true:=by
 unfold NJ
 by_cases c0:1048576<len tq
 ·simp only[c0,decide_true,decide_false,aj,aQ]
 by_cases c1:wA aH 1048576<0
 ·simp only[c0,c1,decide_true,decide_false,aj,aQ]
 have k1:=ntO nAk (by omega) (by omega) (Int.not_lt.1 c1)
 have hs:=nzl k1.2
 have hb:=nzd nAk (by omega) (by omega) (Int.not_lt.1 c1)
 have hf:ner tq=true:=Lu (by simp only[len] at c0;omega)
 have ht:tn aH tq=true:=by simp only[tn,hs,hb,hf,Bool.and_self]
 have hs2:xh (pU aH tq)=true:=nsE hs
 obtain⟨K,P0,P1,P2,P3,P4,P5,P6,P7,P8,P9,P10,P11,P12,P13,P14,P15,mh0,mh1,mh2,_,_⟩:=nyT hs
 obtain⟨J,Q0,Q1,Q2,Q3,Q4,Q5,Q6,Q7,Q8,Q9,Q10,Q11,Q12,Q13,Q14,Q15,nh0,nh1,nh2,nh3,nh4⟩:=nyT hs2
 have mh3:¬K<0:=by omega
 have nh5:¬J<0:=by omega
 simp only[c0,c1,decide_false,aQ,aj,n7,k1.2,ht,mh0,mh1,mh3,nh0,nh1,nh3,nh4,nh5,ng,nr,pQ,pd,beq_self_eq_true,bne_self_eq_false,Bool.not_true,Pm]
end
end Go.Proofs.YtnlkklmcfafgeaaGreat.Pl
