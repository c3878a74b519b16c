/- What functions of the program compute, in plain Lean, as the value machine runs them. Conditions: none. -/
import Derived.Test.YthpmalpdnnbkgaaGreatPHo
set_option linter.unusedVariables false
set_option linter.unusedSimpArgs false
set_option maxRecDepth 100000
namespace Go.Proofs.YthpmalpdnnbkgaaGreat.Pl
open Vm
noncomputable section
theorem alv:∀(a:Rows) (l:Int),(∀r∈a,WtL df.ct r)→0≤l→l≤1048576→0≤al6 (fun r l=>eT (df.ae r 0) l) a l→(aiC a:Int)≤l
 | [],l,_,h,_,_=>by simpa [aiC] using h
 | r::rs,l,hw,h,h',h0=>by
  simp only[al6] at h0
  have hr:WtC (.sl [.int .i64]) (.sl (rR r 2)):=by
   have:=hw r (by simp)
   rw[←df.eta this] at this
   exact df.aiD this
  obtain⟨e,hl⟩:=aiv h h' (cU hr).1
  have hs:eT (df.ae r 0) l=bif decide (l - len (rR r 2)<0) then -1 else l - len (rR r 2):=by
   unfold eT y_ cS
   show (bif decide ((bif decide (w64 (l - len (rR r 2))<0) then -1 else w64 (l - len (rR r 2)))<0) then id (-1) else id (bif decide (w64 (l - len (rR r 2))<0) then -1 else w64 (l - len (rR r 2))))=_
   rw[e]
   by_cases hn:l - len (rR r 2)<0
   ·simp [hn]
   ·simp [hn]
  by_cases hn:l - len (rR r 2)<0
  ·simp [hs,hn] at h0
  ·have hs:eT (df.ae r 0) l=l - len (rR r 2):=by simp [hs,hn]
   have hn':¬eT (df.ae r 0) l<0:=by omega
   simp only[hn',decide_false,cond_false] at h0
   rw[hs] at h0
   have ih:=alv rs (l - len (rR r 2)) (fun x hx=>hw x (by simp [hx])) (by omega) (by omega) h0
   simp only[aiC]
   simp only[len] at ih hn
   omega
theorem ama {a:Rows} {left:Int} (A_:WtC (.sl [.int .i64,.int .i64,.sl [.int .i64]]) (.sl a)) (h1:0≤left) (h2:left≤1048576) (h0:0≤jn a left):aiC a≤1048576:=by
 obtain⟨hl,hw⟩:=cU A_
 obtain⟨e,h3⟩:=aiv h1 h2 hl
 simp only[jn,Kf,e] at h0
 by_cases hn:left - len a<0
 ·simp [hn] at h0
 ·simp only[hn,decide_false,cond_false] at h0
  have:=alv a (left - len a) hw (by omega) (by omega) h0
  omega
theorem aq5 {a:au} {left:Int} (A_:WtL au.ct a.enc) (h1:0≤left) (h2:left≤1048576) (h0:0≤dq a left):FG a=true:=by
 simp only[dq,r_,id] at h0
 by_cases c0:eC a.a_ left<0
 ·simp only[c0,decide_true,cond_true] at h0;omega
 simp only[c0,decide_false,cond_false] at h0
 have k0:=IY (au.aoQ A_) h1 h2 (Int.not_lt.1 c0)
 by_cases c1:jn a.aG (eC a.a_ left)<0
 ·simp only[c1,decide_true,cond_true] at h0;omega
 have k1:=Ok (au.Ez A_) (Int.not_lt.1 c0) k0.1 (Int.not_lt.1 c1)
 have k2:=ama (au.Ez A_) (Int.not_lt.1 c0) k0.1 (Int.not_lt.1 c1)
 have f1:sm a.a_.dn=true:=by
  have:=k0.2
  simp only[fF,uU,ah] at this
  cases h:sm a.a_.dn
  ·rw[h] at this;cases this
  ·rfl
 have f2:sm a.aG=true:=by
  have:=k1.2
  simp only[ik,Bool.and_eq_true] at this
  exact this.1
 simp only[FG,f1,f2,Bool.true_and,decide_eq_true_eq]
 omega
theorem apo {a:aB} {left:Int} (A_:WtL aB.ct a.enc) (h1:0≤left) (h2:left≤1048576) (h0:0≤qk a left):Gd a=true:=by
 simp only[qk,za,id] at h0
 by_cases c0:dj a.bV left<0
 ·simp only[c0,decide_true,cond_true] at h0;omega
 simp only[c0,decide_false,cond_false] at h0
 have k0:=Mg (aB.alw A_) h1 h2 (Int.not_lt.1 c0)
 by_cases c1:cS a.Maps (dj a.bV left)<0
 ·simp only[c1,decide_true,cond_true] at h0;omega
 simp only[c1,decide_false,cond_false] at h0
 have k1:=pO (Int.not_lt.1 c0) k0.1 (cU (aB.aoR A_)).1 (Int.not_lt.1 c1)
 by_cases c2:dq a.Tx (cS a.Maps (dj a.bV left))<0
 ·simp only[c2,decide_true,cond_true] at h0;omega
 exact aq5 (aB.arK A_) (Int.not_lt.1 c1) k1.1 (Int.not_lt.1 c2)
end
end Go.Proofs.YthpmalpdnnbkgaaGreat.Pl
