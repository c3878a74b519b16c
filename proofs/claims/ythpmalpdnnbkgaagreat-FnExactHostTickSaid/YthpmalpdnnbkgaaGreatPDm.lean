/- What functions of the program compute, in plain Lean, as the value machine runs them. Conditions: none. -/
import Derived.Test.YthpmalpdnnbkgaaGreatPLs
import Derived.Test.YthpmalpdnnbkgaaGreatDp
set_option linter.unusedVariables false
set_option linter.unusedSimpArgs false
set_option maxRecDepth 100000
namespace Go.Proofs.YthpmalpdnnbkgaaGreat.Pl
open Vm
noncomputable section
def pP {α:Type} (bad:α) (k_:Int→Rows→α) (bZ:Int→Int→Rows→α) (aW:Int) (i:Int) (de:Rows):α:=
 let z0:Rows:=List.set de (Int.toNat i) (aD (nth de (Int.toNat i)) 0 [.int aW])
 let z1:Rows:=List.set z0 (Int.toNat i) (aD (nth z0 (Int.toNat i)) 1 [.int (w64 (aW+1))])
 let z2:Int:=w64 ((w64 (aW+1))+1)
 let z3:Rows:=List.set z1 (Int.toNat i) (aD (nth z1 (Int.toNat i)) 2 [.int z2])
 let z4:List DC:=nth z3 (Int.toNat i)
 let z5:Rows:=rR z4 3
 let z6:Int:=w64 (z2+1)
 let z7:Int×Rows:=fl z5 z6
 bif decide (i<len de) then
  bif ak (ak true (idx i de)) (inl (Int.toNat i) de) then
   bif ak (ak true (idx i z0)) (inl (Int.toNat i) z0) then
    bif ak (ak true (idx i z1)) (inl (Int.toNat i) z1) then
     bif ak (ak (ak true (idx i z3)) (inl (Int.toNat i) z3)) (Bs 1 z5 z6) then
      bZ z7.1 (w64 (i+1)) (List.set z3 (Int.toNat i) (aD z4 3 [.sl z7.2]))
     else bad
    else bad
   else bad
  else bad
 else k_ aW de
def jP {α:Type} (bad:α) (k_:Int→Rows→α) (N:Nat) (m_:Nat):Int→Int→Rows→α:=
 Nat.rec (motive:=fun _=>Int→Int→Rows→α) (fun _ _ _=>bad) (fun _ bZ=>pP bad k_ bZ) m_
theorem G9 {α:Type} (bad:α) (k_:Int→Rows→α) (N:Nat) (m_:Nat) (aW:Int) (i:Int) (de:Rows):jP bad k_ N (m_+1) aW i de=pP bad k_ (jP bad k_ N m_) aW i de:=rfl
def w_ {α:Type} (bad:α) (k_:Int→Rows→α) (l0:Int→Int→Rows→α) (a:Rows) (k:Int):α:=
 l0 k 0 a
def wZ {α:Type} (bad:α) (k_:Int→Rows→α) (N:Nat) (a:Rows) (k:Int):α:=w_ bad k_ (jP bad k_ N N) a k
def fA (r:List DC) (k:Int):List DC×Int:=([.int (k),.int (k+1),.int (k+1+1),.sl (oh eN 1 (rR r 3).length (k+1+1+1))],k+1+1+1+1*(rR r 3).length)
def F6 (r:List DC) (k:Int):Bool:=Bs 1 (rR r 3) (k+1+1+1)
def wW (a:Rows) (k:Int):Int×Rows:=((FH fA a k).2,(FH fA a k).1)
theorem Yp {α:Type} (bad:α) (k_:Int→Rows→α) (a:Rows) (k:Int) (bT:WtC (.sl [.int .i64,.int .i64,.int .i64,.sl [.int .i64]]) (.sl a)) (qX:WtC (.int .i64) (.int k)) (hok:va fA F6 a k=true):∃N,wZ bad k_ N a k=k_ (wW a k).1 (wW a k).2:=by
 obtain⟨hl,hw⟩:=cU bT
 refine⟨a.length+1, ?_⟩
 unfold wZ w_ wW
 refine amZ a k fA F6 (jP bad k_ (a.length+1)) k_ hok ?_ ?_
 ·intro n i k b h hb hn hg
  rw[G9]
  have hr:=AO (hw (nth a i) (gK h))
  have hk: -1*4≤k:=by have:=(yT hg).2.1;omega
  rw[←hn] at hg hr ⊢
  have DS:i<b.length:=by omega
  generalize hrr:nth b i=r at*
  match r,hr with
  | [a0,a1,a2,a3],_=>
   have hg':Bs 1 (DC.asRows a3) (k+1+1+1)=true:=hg
   obtain⟨g1,g2,g3⟩:=yT hg'
   have rr:∀x0 x1 x2 x3:DC,rR [x0,x1,x2,x3] 3=DC.asRows x3:=fun _ _ _ _=>rfl
   have s0:∀x0 x1 x2 x3 v:DC,aD [x0,x1,x2,x3] 0 [v]=[v,x1,x2,x3]:=fun _ _ _ _ _=>rfl
   have s1:∀x0 x1 x2 x3 v:DC,aD [x0,x1,x2,x3] 1 [v]=[x0,v,x2,x3]:=fun _ _ _ _ _=>rfl
   have s2:∀x0 x1 x2 x3 v:DC,aD [x0,x1,x2,x3] 2 [v]=[x0,x1,v,x3]:=fun _ _ _ _ _=>rfl
   have s3:∀x0 x1 x2 x3 v:DC,aD [x0,x1,x2,x3] 3 [v]=[x0,x1,x2,v]:=fun _ _ _ _ _=>rfl
   have w0:w64 (k+1)=k+1:=d8 (by omega) (by omega)
   have w1:w64 (k+1+1)=k+1+1:=d8 (by omega) (by omega)
   have w2:w64 (k+1+1+1)=k+1+1+1:=d8 (by omega) (by omega)
   simp only[pP,ch DS,bw DS,eI DS,bu h hl,Int.toNat_natCast,ah,ao,cond_true,hrr,w0,w1,w2,FI,FJ,List.set_set,FK DS,s0,s1,s2,s3,rr,fl,hg',fA]
 ·intro n k b hb
  rw[G9]
  simp only[pP,←hb,aQ,cond_false]
def MR (a:Rows):Bool:=sm a && a.all (fun r=>sm (rR r 3))
theorem afm {a:Rows} (h:MR a=true) {k:Int} (h0:0≤k) (h1:k≤600000000000000):va fA F6 a k=true∧k≤(wW a k).1∧(wW a k).1≤k+281475110928384:=by
 simp only[MR,Bool.and_eq_true,List.all_eq_true] at h
 have hl:=qU h.1
 obtain⟨h2,h3,h4⟩:=aaY (f:=fA) (g:=F6) (B:=1125899906842000) (C:=16777224) (by omega) a k (fun r hr k k0 k1=>by
  have hs:=qU (h.2 r hr)
  refine⟨wP (h.2 r hr) (by omega) (by omega), ?_, ?_⟩
  ·show k≤k+1+1+1+1*((rR r 3).length:Int)
   omega
  ·show k+1+1+1+1*((rR r 3).length:Int)≤k+16777224
   omega) h0 (by omega)
 exact⟨h2,h3,by show (FH fA a k).2≤_;omega⟩
def pQ {α:Type} (bad:α) (k_:Int→α) (a:Rows) (bZ:Int→Int→α) (aW:Int) (i:Int):α:=
 let z0:Int:=w64 ((w64 (aW+1))+1)
 let z1:Int:=w64 (z0+1)
 let z2:Int:=ez (rR (nth a (Int.toNat i)) 3) z1
 bif decide (i<len a) then
  bif ak true (idx i a) then
   bif (rI (nth a (Int.toNat i)) 0) != aW then k_ (-1)
   else bif ak true (idx i a) then
     bif (rI (nth a (Int.toNat i)) 1) != (w64 (aW+1)) then k_ (-1)
     else bif ak true (idx i a) then
       bif (rI (nth a (Int.toNat i)) 2) != z0 then k_ (-1)
       else bif ak (ak true (idx i a)) (DR eN 1 (rR (nth a (Int.toNat i)) 3) z1) then
         bif decide (z2<0) then k_ (-1)
         else bZ z2 (w64 (i+1))
        else bad
      else bad
    else bad
  else bad
 else k_ aW
def jS {α:Type} (bad:α) (k_:Int→α) (N:Nat) (a:Rows) (m_:Nat):Int→Int→α:=
 Nat.rec (motive:=fun _=>Int→Int→α) (fun _ _=>bad) (fun _ bZ=>pQ bad k_ a bZ) m_
theorem G_ {α:Type} (bad:α) (k_:Int→α) (N:Nat) (a:Rows) (m_:Nat) (aW:Int) (i:Int):jS bad k_ N a (m_+1) aW i=pQ bad k_ a (jS bad k_ N a m_) aW i:=rfl
def xd {α:Type} (bad:α) (k_:Int→α) (l0:Int→Int→α) (a:Rows) (k:Int):α:=
 l0 k 0
def xc {α:Type} (bad:α) (k_:Int→α) (N:Nat) (a:Rows) (k:Int):α:=xd bad k_ (jS bad k_ N a N) a k
def Qo (a:Rows) (k:Int):Bool:=same a (FH fA a k).1 && va fA F6 a k
def Lv (a:Rows) (k:Int):Int:=(FH fA a k).2
theorem Yt {α:Type} (bad:α) (k_:Int→α) (a:Rows) (k:Int) (bT:WtC (.sl [.int .i64,.int .i64,.int .i64,.sl [.int .i64]]) (.sl a)) (qX:WtC (.int .i64) (.int k)) (hok:Qo a k=true):∃N,xc bad k_ N a k=k_ (Lv a k):=by
 obtain⟨hl,hw⟩:=cU bT
 simp only[Qo,Bool.and_eq_true] at hok
 refine⟨a.length+1, ?_⟩
 unfold xc xd Lv
 refine am0 a k fA F6 (jS bad k_ (a.length+1) a) k_ hok.2 (dU hok.1) ?_ ?_
 ·intro n i k h hn hg
  rw[G_]
  have hg':Bs 1 (rR (nth a i) 3) (k+1+1+1)=true:=hg
  obtain⟨g1,g2,g3⟩:=yT hg'
  have e:rR (nth a i) 3=oh eN 1 (rR (nth a i) 3).length (k+1+1+1):=congrArg (fun r=>rR r 3) hn
  have hh:DR eN 1 (rR (nth a i) 3) (k+1+1+1)=true:=by
   simp only[DR,Bool.and_eq_true]
   exact⟨by rw[←e];exact cY _,hg'⟩
  have r0:rI (nth a i) 0=k:=congrArg (fun r=>rI r 0) hn
  have r1:rI (nth a i) 1=k+1:=congrArg (fun r=>rI r 1) hn
  have r2:rI (nth a i) 2=k+1+1:=congrArg (fun r=>rI r 2) hn
  have w0:w64 (k+1)=k+1:=d8 (by omega) (by omega)
  have w1:w64 (k+1+1)=k+1+1:=d8 (by omega) (by omega)
  have w2:w64 (k+1+1+1)=k+1+1+1:=d8 (by omega) (by omega)
  have hz:¬k+1+1+1+1*((rR (nth a i) 3).length:Int)<0:=by omega
  simp only[pQ,ch h,bw h,bu h hl,Int.toNat_natCast,ah,ao,cond_true,hh,ez,hz,w0,w1,w2,r0,r1,r2,bne_self_eq_false,beq_self_eq_true,Bool.not_true,decide_false,cond_false,fA]
 ·intro n k
  rw[G_]
  simp only[pQ,aQ,cond_false]
theorem apM {a:Rows} (h:MR a=true) {k:Int} (h0:0≤k) (h1:k≤600000000000000):va fA F6 a k=true∧Qo (FH fA a k).1 k=true∧(FH fA (FH fA a k).1 k).2=(FH fA a k).2∧k≤(FH fA a k).2∧(FH fA a k).2≤k+281475110928384:=by
 obtain⟨h2,h3,h4⟩:=afm h h0 h1
 have hl:∀r k,(rR (fA r k).1 3).length=(rR r 3).length:=fun r k=>dH eN 1 _ _
 have hf:∀r k,fA (fA r k).1 k=fA r k:=by
  intro r k
  have e:=hl r k
  unfold fA at e ⊢
  simp only[e]
 have hg:∀r k,F6 (fA r k).1 k=F6 r k:=by
  intro r k
  simp only[F6,Bs,sm,hl]
 obtain⟨t1,t2⟩:=aaX hf hg a k
 refine⟨h2, ?_,by rw[t1],h3,h4⟩
 simp only[Qo,t1,t2,h2,cY,Bool.and_self]
def pR {α:Type} (bad:α) (k_:Int→Rows→α) (bZ:Int→Int→Rows→α) (aW:Int) (i:Int) (de:Rows):α:=
 let z0:Rows:=List.set de (Int.toNat i) (aD (nth de (Int.toNat i)) 0 [.int aW])
 let z1:Rows:=List.set z0 (Int.toNat i) (aD (nth z0 (Int.toNat i)) 1 [.int (w64 (aW+1))])
 let z2:List DC:=nth z1 (Int.toNat i)
 let z3:Rows:=rR z2 2
 let z4:Int:=w64 ((w64 (aW+1))+1)
 let z5:Int×Rows:=fl z3 z4
 bif decide (i<len de) then
  bif ak (ak true (idx i de)) (inl (Int.toNat i) de) then
   bif ak (ak true (idx i z0)) (inl (Int.toNat i) z0) then
    bif ak (ak (ak true (idx i z1)) (inl (Int.toNat i) z1)) (Bs 1 z3 z4) then
     bZ z5.1 (w64 (i+1)) (List.set z1 (Int.toNat i) (aD z2 2 [.sl z5.2]))
    else bad
   else bad
  else bad
 else k_ aW de
def jV {α:Type} (bad:α) (k_:Int→Rows→α) (N:Nat) (m_:Nat):Int→Int→Rows→α:=
 Nat.rec (motive:=fun _=>Int→Int→Rows→α) (fun _ _ _=>bad) (fun _ bZ=>pR bad k_ bZ) m_
theorem Ha {α:Type} (bad:α) (k_:Int→Rows→α) (N:Nat) (m_:Nat) (aW:Int) (i:Int) (de:Rows):jV bad k_ N (m_+1) aW i de=pR bad k_ (jV bad k_ N m_) aW i de:=rfl
def xi {α:Type} (bad:α) (k_:Int→Rows→α) (l0:Int→Int→Rows→α) (a:Rows) (k:Int):α:=
 l0 k 0 a
def xh {α:Type} (bad:α) (k_:Int→Rows→α) (N:Nat) (a:Rows) (k:Int):α:=xi bad k_ (jV bad k_ N N) a k
def fB (r:List DC) (k:Int):List DC×Int:=([.int (k),.int (k+1),.sl (oh eN 1 (rR r 2).length (k+1+1))],k+1+1+1*(rR r 2).length)
def F7 (r:List DC) (k:Int):Bool:=Bs 1 (rR r 2) (k+1+1)
def xe (a:Rows) (k:Int):Int×Rows:=((FH fB a k).2,(FH fB a k).1)
theorem Yx {α:Type} (bad:α) (k_:Int→Rows→α) (a:Rows) (k:Int) (bT:WtC (.sl [.int .i64,.int .i64,.sl [.int .i64]]) (.sl a)) (qX:WtC (.int .i64) (.int k)) (hok:va fB F7 a k=true):∃N,xh bad k_ N a k=k_ (xe a k).1 (xe a k).2:=by
 obtain⟨hl,hw⟩:=cU bT
 refine⟨a.length+1, ?_⟩
 unfold xh xi xe
 refine amZ a k fB F7 (jV bad k_ (a.length+1)) k_ hok ?_ ?_
 ·intro n i k b h hb hn hg
  rw[Ha]
  have hr:=AO (hw (nth a i) (gK h))
  have hk: -1*3≤k:=by have:=(yT hg).2.1;omega
  rw[←hn] at hg hr ⊢
  have DS:i<b.length:=by omega
  generalize hrr:nth b i=r at*
  match r,hr with
  | [a0,a1,a2],_=>
   have hg':Bs 1 (DC.asRows a2) (k+1+1)=true:=hg
   obtain⟨g1,g2,g3⟩:=yT hg'
   have rr:∀x0 x1 x2:DC,rR [x0,x1,x2] 2=DC.asRows x2:=fun _ _ _=>rfl
   have s0:∀x0 x1 x2 v:DC,aD [x0,x1,x2] 0 [v]=[v,x1,x2]:=fun _ _ _ _=>rfl
   have s1:∀x0 x1 x2 v:DC,aD [x0,x1,x2] 1 [v]=[x0,v,x2]:=fun _ _ _ _=>rfl
   have s2:∀x0 x1 x2 v:DC,aD [x0,x1,x2] 2 [v]=[x0,x1,v]:=fun _ _ _ _=>rfl
   have w0:w64 (k+1)=k+1:=d8 (by omega) (by omega)
   have w1:w64 (k+1+1)=k+1+1:=d8 (by omega) (by omega)
   simp only[pR,ch DS,bw DS,eI DS,bu h hl,Int.toNat_natCast,ah,ao,cond_true,hrr,w0,w1,FI,FJ,List.set_set,FK DS,s0,s1,s2,rr,fl,hg',fB]
 ·intro n k b hb
  rw[Ha]
  simp only[pR,←hb,aQ,cond_false]
def BZ (a:Rows):Bool:=sm a && a.all (fun r=>sm (rR r 2))
theorem afn {a:Rows} (h:BZ a=true) {k:Int} (h0:0≤k) (h1:k≤600000000000000):va fB F7 a k=true∧k≤(xe a k).1∧(xe a k).1≤k+281475110928384:=by
 simp only[BZ,Bool.and_eq_true,List.all_eq_true] at h
 have hl:=qU h.1
 obtain⟨h2,h3,h4⟩:=aaY (f:=fB) (g:=F7) (B:=1125899906842000) (C:=16777224) (by omega) a k (fun r hr k k0 k1=>by
  have hs:=qU (h.2 r hr)
  refine⟨wP (h.2 r hr) (by omega) (by omega), ?_, ?_⟩
  ·show k≤k+1+1+1*((rR r 2).length:Int)
   omega
  ·show k+1+1+1*((rR r 2).length:Int)≤k+16777224
   omega) h0 (by omega)
 exact⟨h2,h3,by show (FH fB a k).2≤_;omega⟩
def pS {α:Type} (bad:α) (k_:Int→α) (a:Rows) (bZ:Int→Int→α) (aW:Int) (i:Int):α:=
 let z0:Int:=w64 ((w64 (aW+1))+1)
 let z1:Int:=ez (rR (nth a (Int.toNat i)) 2) z0
 bif decide (i<len a) then
  bif ak true (idx i a) then
   bif (rI (nth a (Int.toNat i)) 0) != aW then k_ (-1)
   else bif ak true (idx i a) then
     bif (rI (nth a (Int.toNat i)) 1) != (w64 (aW+1)) then k_ (-1)
     else bif ak (ak true (idx i a)) (DR eN 1 (rR (nth a (Int.toNat i)) 2) z0) then
       bif decide (z1<0) then k_ (-1)
       else bZ z1 (w64 (i+1))
      else bad
    else bad
  else bad
 else k_ aW
def jY {α:Type} (bad:α) (k_:Int→α) (N:Nat) (a:Rows) (m_:Nat):Int→Int→α:=
 Nat.rec (motive:=fun _=>Int→Int→α) (fun _ _=>bad) (fun _ bZ=>pS bad k_ a bZ) m_
theorem Hb {α:Type} (bad:α) (k_:Int→α) (N:Nat) (a:Rows) (m_:Nat) (aW:Int) (i:Int):jY bad k_ N a (m_+1) aW i=pS bad k_ a (jY bad k_ N a m_) aW i:=rfl
def xm {α:Type} (bad:α) (k_:Int→α) (l0:Int→Int→α) (a:Rows) (k:Int):α:=
 l0 k 0
def xl {α:Type} (bad:α) (k_:Int→α) (N:Nat) (a:Rows) (k:Int):α:=xm bad k_ (jY bad k_ N a N) a k
def Qp (a:Rows) (k:Int):Bool:=same a (FH fB a k).1 && va fB F7 a k
def Lw (a:Rows) (k:Int):Int:=(FH fB a k).2
theorem YB {α:Type} (bad:α) (k_:Int→α) (a:Rows) (k:Int) (bT:WtC (.sl [.int .i64,.int .i64,.sl [.int .i64]]) (.sl a)) (qX:WtC (.int .i64) (.int k)) (hok:Qp a k=true):∃N,xl bad k_ N a k=k_ (Lw a k):=by
 obtain⟨hl,hw⟩:=cU bT
 simp only[Qp,Bool.and_eq_true] at hok
 refine⟨a.length+1, ?_⟩
 unfold xl xm Lw
 refine am0 a k fB F7 (jY bad k_ (a.length+1) a) k_ hok.2 (dU hok.1) ?_ ?_
 ·intro n i k h hn hg
  rw[Hb]
  have hg':Bs 1 (rR (nth a i) 2) (k+1+1)=true:=hg
  obtain⟨g1,g2,g3⟩:=yT hg'
  have e:rR (nth a i) 2=oh eN 1 (rR (nth a i) 2).length (k+1+1):=congrArg (fun r=>rR r 2) hn
  have hh:DR eN 1 (rR (nth a i) 2) (k+1+1)=true:=by
   simp only[DR,Bool.and_eq_true]
   exact⟨by rw[←e];exact cY _,hg'⟩
  have r0:rI (nth a i) 0=k:=congrArg (fun r=>rI r 0) hn
  have r1:rI (nth a i) 1=k+1:=congrArg (fun r=>rI r 1) hn
  have w0:w64 (k+1)=k+1:=d8 (by omega) (by omega)
  have w1:w64 (k+1+1)=k+1+1:=d8 (by omega) (by omega)
  have hz:¬k+1+1+1*((rR (nth a i) 2).length:Int)<0:=by omega
  simp only[pS,ch h,bw h,bu h hl,Int.toNat_natCast,ah,ao,cond_true,hh,ez,hz,w0,w1,r0,r1,bne_self_eq_false,beq_self_eq_true,Bool.not_true,decide_false,cond_false,fB]
 ·intro n k
  rw[Hb]
  simp only[pS,aQ,cond_false]
theorem apN {a:Rows} (h:BZ a=true) {k:Int} (h0:0≤k) (h1:k≤600000000000000):va fB F7 a k=true∧Qp (FH fB a k).1 k=true∧(FH fB (FH fB a k).1 k).2=(FH fB a k).2∧k≤(FH fB a k).2∧(FH fB a k).2≤k+281475110928384:=by
 obtain⟨h2,h3,h4⟩:=afn h h0 h1
 have hl:∀r k,(rR (fB r k).1 2).length=(rR r 2).length:=fun r k=>dH eN 1 _ _
 have hf:∀r k,fB (fB r k).1 k=fB r k:=by
  intro r k
  have e:=hl r k
  unfold fB at e ⊢
  simp only[e]
 have hg:∀r k,F7 (fB r k).1 k=F7 r k:=by
  intro r k
  simp only[F7,Bs,sm,hl]
 obtain⟨t1,t2⟩:=aaX hf hg a k
 refine⟨h2, ?_,by rw[t1],h3,h4⟩
 simp only[Qp,t1,t2,h2,cY,Bool.and_self]
def lF {α:Type} (bad:α) (k_:Int→Rows→α) (bZ:Int→Int→Rows→α) (aW:Int) (i:Int) (de:Rows):α:=
 let z0:Rows:=List.set de (Int.toNat i) (aD (nth de (Int.toNat i)) 0 [.int aW])
 let z1:Rows:=List.set z0 (Int.toNat i) (aD (nth z0 (Int.toNat i)) 1 [.int (w64 (aW+1))])
 let z2:Int:=w64 ((w64 (aW+1))+1)
 let z3:Rows:=List.set z1 (Int.toNat i) (aD (nth z1 (Int.toNat i)) 2 [.int z2])
 let z4:Int:=w64 (z2+1)
 let z5:Rows:=List.set z3 (Int.toNat i) (aD (nth z3 (Int.toNat i)) 3 [.int z4])
 let z6:Int:=w64 (z4+1)
 let z7:Rows:=List.set z5 (Int.toNat i) (aD (nth z5 (Int.toNat i)) 4 [.int z6])
 let z8:Int:=w64 (z6+1)
 let z9:Rows:=List.set z7 (Int.toNat i) (aD (nth z7 (Int.toNat i)) 5 [.int z8])
 let z10:Int:=w64 (z8+1)
 let Xx:Rows:=List.set z9 (Int.toNat i) (aD (nth z9 (Int.toNat i)) 6 [.str (lN z10)])
 let z12:Int:=w64 (z10+1)
 bif decide (i<len de) then
  bif ak (ak true (idx i de)) (inl (Int.toNat i) de) then
   bif ak (ak true (idx i z0)) (inl (Int.toNat i) z0) then
    bif ak (ak true (idx i z1)) (inl (Int.toNat i) z1) then
     bif ak (ak true (idx i z3)) (inl (Int.toNat i) z3) then
      bif ak (ak true (idx i z5)) (inl (Int.toNat i) z5) then
       bif ak (ak true (idx i z7)) (inl (Int.toNat i) z7) then
        bif ak (ak true (idx i z9)) (inl (Int.toNat i) z9) then
         bif ak (ak true (idx i Xx)) (inl (Int.toNat i) Xx) then
          bZ (w64 (z12+1)) (w64 (i+1)) (List.set Xx (Int.toNat i) (aD (nth Xx (Int.toNat i)) 7 [.bool ((Int.tmod z12 3)==0)]))
         else bad
        else bad
       else bad
      else bad
     else bad
    else bad
   else bad
  else bad
 else k_ aW de
def gP {α:Type} (bad:α) (k_:Int→Rows→α) (N:Nat) (m_:Nat):Int→Int→Rows→α:=
 Nat.rec (motive:=fun _=>Int→Int→Rows→α) (fun _ _ _=>bad) (fun _ bZ=>lF bad k_ bZ) m_
theorem DT {α:Type} (bad:α) (k_:Int→Rows→α) (N:Nat) (m_:Nat) (aW:Int) (i:Int) (de:Rows):gP bad k_ N (m_+1) aW i de=lF bad k_ (gP bad k_ N m_) aW i de:=rfl
def sZ {α:Type} (bad:α) (k_:Int→Rows→α) (l0:Int→Int→Rows→α) (a:Rows) (k:Int):α:=
 l0 k 0 a
def sY {α:Type} (bad:α) (k_:Int→Rows→α) (N:Nat) (a:Rows) (k:Int):α:=sZ bad k_ (gP bad k_ N N) a k
def t3 (k:Int):List DC:=[.int (k),.int (k+1),.int (k+1+1),.int (k+1+1+1),.int (k+1+1+1+1),.int (k+1+1+1+1+1),.str (lN (k+1+1+1+1+1+1)),.bool (Int.tmod (k+1+1+1+1+1+1+1) 3==0)]
def vK (a:Rows) (k:Int):Int×Rows:=(k+8*a.length,oh t3 8 a.length k)
theorem anY (K:Int) (r:List DC) (hr:r.length=8):aD (aD (aD (aD (aD (aD (aD (aD r 0 [.int (K)]) 1 [.int (K+1)]) 2 [.int (K+1+1)]) 3 [.int (K+1+1+1)]) 4 [.int (K+1+1+1+1)]) 5 [.int (K+1+1+1+1+1)]) 6 [.str (lN (K+1+1+1+1+1+1))]) 7 [.bool (Int.tmod (K+1+1+1+1+1+1+1) 3==0)]=t3 K:=by
 obtain⟨a0,r1,rfl,h1⟩:=bO hr
 obtain⟨a1,r2,rfl,h2⟩:=bO h1
 obtain⟨a2,r3,rfl,h3⟩:=bO h2
 obtain⟨a3,r4,rfl,h4⟩:=bO h3
 obtain⟨a4,r5,rfl,h5⟩:=bO h4
 obtain⟨a5,r6,rfl,h6⟩:=bO h5
 obtain⟨a6,r7,rfl,h7⟩:=bO h6
 obtain⟨a7,r8,rfl,h8⟩:=bO h7
 obtain rfl:=List.length_eq_zero_iff.1 h8
 kernel_rfl
theorem Td {α:Type} (bad:α) (k_:Int→Rows→α) (a:Rows) (k:Int) (bT:WtC (.sl [.int .i64,.int .i64,.int .i64,.int .i64,.int .i64,.int .i64,.str,.bool]) (.sl a)) (qX:WtC (.int .i64) (.int k)) (hok:Bs 8 a k=true):∃N,sY bad k_ N a k=k_ (vK a k).1 (vK a k).2:=by
 obtain⟨hl,hw⟩:=cU bT
 obtain⟨h1,h2,h3⟩:=yT hok
 refine⟨a.length+1, ?_⟩
 unfold sY sZ vK
 refine yC a k 8 t3 (gP bad k_ (a.length+1)) k_ ?_ ?_
 ·intro n i b h hb hn
  rw[DT]
  have PF:0≤k+8*(i:Int):=by omega
  have MS:k+8*(i:Int)≤1125901000000000000:=by omega
  generalize k+8*(i:Int)=K at PF MS ⊢
  have b0:0≤K∧K≤1125901000000000000:=⟨PF,MS⟩
  obtain⟨w1,b1⟩:=aR b0 (by decide)
  obtain⟨w2,b2⟩:=aR b1 (by decide)
  obtain⟨w3,b3⟩:=aR b2 (by decide)
  obtain⟨w4,b4⟩:=aR b3 (by decide)
  obtain⟨w5,b5⟩:=aR b4 (by decide)
  obtain⟨w6,b6⟩:=aR b5 (by decide)
  obtain⟨w7,b7⟩:=aR b6 (by decide)
  obtain⟨w8,b8⟩:=aR b7 (by decide)
  have hr:=AO (hw (nth a i) (gK h))
  have DS:i<b.length:=by omega
  simp only[lF,ch DS,bw DS,eI DS,bu h hl,Int.toNat_natCast,ah,ao,cond_true,hn,w1,w2,w3,w4,w5,w6,w7,w8,FI,FJ,List.set_set,FK DS]
  rw[show K+1+1+1+1+1+1+1+1=K+8 by simp only[Int.add_assoc];rfl,anY K (nth a i) hr]
 ·intro n b hb
  rw[DT]
  simp only[lF,←hb,aQ,cond_false]
def lG {α:Type} (bad:α) (k_:Int→α) (a:Rows) (bZ:Int→Int→α) (aW:Int) (i:Int):α:=
 let z0:Int:=w64 ((w64 (aW+1))+1)
 let z1:Int:=w64 (z0+1)
 let z2:Int:=w64 (z1+1)
 let z3:Int:=w64 (z2+1)
 let z4:Int:=w64 (z3+1)
 let z5:Int:=w64 (z4+1)
 bif decide (i<len a) then
  bif ak true (idx i a) then
   bif (rI (nth a (Int.toNat i)) 0) != aW then k_ (-1)
   else bif ak true (idx i a) then
     bif (rI (nth a (Int.toNat i)) 1) != (w64 (aW+1)) then k_ (-1)
     else bif ak true (idx i a) then
       bif (rI (nth a (Int.toNat i)) 2) != z0 then k_ (-1)
       else bif ak true (idx i a) then
         bif (rI (nth a (Int.toNat i)) 3) != z1 then k_ (-1)
         else bif ak true (idx i a) then
           bif (rI (nth a (Int.toNat i)) 4) != z2 then k_ (-1)
           else bif ak true (idx i a) then
             bif (rI (nth a (Int.toNat i)) 5) != z3 then k_ (-1)
             else bif ak true (idx i a) then
               bif !((rS (nth a (Int.toNat i)) 6)==(lN z4)) then k_ (-1)
               else bif ak true (idx i a) then
                 bif !((rB (nth a (Int.toNat i)) 7)==((Int.tmod z5 3)==0)) then k_ (-1)
                 else bZ (w64 (z5+1)) (w64 (i+1))
                else bad
              else bad
            else bad
          else bad
        else bad
      else bad
    else bad
  else bad
 else k_ aW
def gS {α:Type} (bad:α) (k_:Int→α) (N:Nat) (a:Rows) (m_:Nat):Int→Int→α:=
 Nat.rec (motive:=fun _=>Int→Int→α) (fun _ _=>bad) (fun _ bZ=>lG bad k_ a bZ) m_
theorem DU {α:Type} (bad:α) (k_:Int→α) (N:Nat) (a:Rows) (m_:Nat) (aW:Int) (i:Int):gS bad k_ N a (m_+1) aW i=lG bad k_ a (gS bad k_ N a m_) aW i:=rfl
def tc {α:Type} (bad:α) (k_:Int→α) (l0:Int→Int→α) (a:Rows) (k:Int):α:=
 l0 k 0
def tb {α:Type} (bad:α) (k_:Int→α) (N:Nat) (a:Rows) (k:Int):α:=tc bad k_ (gS bad k_ N a N) a k
def Bd (a:Rows) (k:Int):Int:=k+8*a.length
theorem Th {α:Type} (bad:α) (k_:Int→α) (a:Rows) (k:Int) (bT:WtC (.sl [.int .i64,.int .i64,.int .i64,.int .i64,.int .i64,.int .i64,.str,.bool]) (.sl a)) (qX:WtC (.int .i64) (.int k)) (hok:DR t3 8 a k=true):∃N,tb bad k_ N a k=k_ (Bd a k):=by
 obtain⟨hl,hw⟩:=cU bT
 obtain⟨h0,h1,h2,h3⟩:=MQ hok
 refine⟨a.length+1, ?_⟩
 unfold tb tc Bd
 refine yD a k 8 t3 (gS bad k_ (a.length+1) a) k_ h0 ?_ ?_
 ·intro n i h hn
  rw[DU]
  have PF:0≤k+8*(i:Int):=by omega
  have MS:k+8*(i:Int)≤1125901000000000000:=by omega
  generalize k+8*(i:Int)=K at hn PF MS ⊢
  have b0:0≤K∧K≤1125901000000000000:=⟨PF,MS⟩
  obtain⟨w1,b1⟩:=aR b0 (by decide)
  obtain⟨w2,b2⟩:=aR b1 (by decide)
  obtain⟨w3,b3⟩:=aR b2 (by decide)
  obtain⟨w4,b4⟩:=aR b3 (by decide)
  obtain⟨w5,b5⟩:=aR b4 (by decide)
  obtain⟨w6,b6⟩:=aR b5 (by decide)
  obtain⟨w7,b7⟩:=aR b6 (by decide)
  obtain⟨w8,b8⟩:=aR b7 (by decide)
  have r0:rI (nth a i) 0=K:=by rw[hn];rfl
  have r1:rI (nth a i) 1=K+1:=by rw[hn];rfl
  have r2:rI (nth a i) 2=K+1+1:=by rw[hn];rfl
  have r3:rI (nth a i) 3=K+1+1+1:=by rw[hn];rfl
  have r4:rI (nth a i) 4=K+1+1+1+1:=by rw[hn];rfl
  have r5:rI (nth a i) 5=K+1+1+1+1+1:=by rw[hn];rfl
  have r6:rS (nth a i) 6=lN (K+1+1+1+1+1+1):=by rw[hn];rfl
  have r7:rB (nth a i) 7=(Int.tmod (K+1+1+1+1+1+1+1) 3==0):=by rw[hn];rfl
  simp only[lG,ch h,bw h,bu h hl,Int.toNat_natCast,ah,ao,cond_true,w1,w2,w3,w4,w5,w6,w7,w8,r0,r1,r2,r3,r4,r5,r6,r7,bne_self_eq_false,beq_self_eq_true,Bool.not_true,cond_false]
  rw[show K+1+1+1+1+1+1+1+1=K+8 by simp only[Int.add_assoc];rfl]
 ·intro n
  rw[DU]
  simp only[lG,aQ,cond_false]
def js {α:Type} (bad:α) (k_:Int→Rows→α) (bZ:Int→Int→Rows→α) (aW:Int) (i:Int) (de:Rows):α:=
 let z0:Rows:=List.set de (Int.toNat i) (aD (nth de (Int.toNat i)) 0 [.int aW])
 let z1:Rows:=List.set z0 (Int.toNat i) (aD (nth z0 (Int.toNat i)) 1 [.int (w64 (aW+1))])
 let z2:Int:=w64 ((w64 (aW+1))+1)
 let z3:Rows:=List.set z1 (Int.toNat i) (aD (nth z1 (Int.toNat i)) 2 [.int z2])
 let z4:Int:=w64 (z2+1)
 let z5:Rows:=List.set z3 (Int.toNat i) (aD (nth z3 (Int.toNat i)) 3 [.int z4])
 let z6:Int:=w64 (z4+1)
 let z7:Rows:=List.set z5 (Int.toNat i) (aD (nth z5 (Int.toNat i)) 4 [.int z6])
 let z8:Int:=w64 (z6+1)
 let z9:Rows:=List.set z7 (Int.toNat i) (aD (nth z7 (Int.toNat i)) 5 [.int z8])
 let z10:Int:=w64 (z8+1)
 let Xx:Rows:=List.set z9 (Int.toNat i) (aD (nth z9 (Int.toNat i)) 6 [.int z10])
 let z12:Int:=w64 (z10+1)
 let z13:Rows:=List.set Xx (Int.toNat i) (aD (nth Xx (Int.toNat i)) 7 [.int z12])
 let z14:Int:=w64 (z12+1)
 let z15:Rows:=List.set z13 (Int.toNat i) (aD (nth z13 (Int.toNat i)) 8 [.int z14])
 let z16:Int:=w64 (z14+1)
 let z17:Rows:=List.set z15 (Int.toNat i) (aD (nth z15 (Int.toNat i)) 9 [.int z16])
 let z18:Int:=w64 (z16+1)
 let z19:Rows:=List.set z17 (Int.toNat i) (aD (nth z17 (Int.toNat i)) 10 [.int z18])
 let z20:Int:=w64 (z18+1)
 let z21:Rows:=List.set z19 (Int.toNat i) (aD (nth z19 (Int.toNat i)) 11 [.int z20])
 let z22:Int:=w64 (z20+1)
 let z23:Rows:=List.set z21 (Int.toNat i) (aD (nth z21 (Int.toNat i)) 12 [.int z22])
 let z24:Int:=w64 (z22+1)
 let z25:Rows:=List.set z23 (Int.toNat i) (aD (nth z23 (Int.toNat i)) 13 [.int z24])
 let z26:Int:=w64 (z24+1)
 let z27:Rows:=List.set z25 (Int.toNat i) (aD (nth z25 (Int.toNat i)) 14 [.int z26])
 let z28:Int:=w64 (z26+1)
 let z29:Rows:=List.set z27 (Int.toNat i) (aD (nth z27 (Int.toNat i)) 15 [.int z28])
 let z30:Int:=w64 (z28+1)
 let z31:Rows:=List.set z29 (Int.toNat i) (aD (nth z29 (Int.toNat i)) 16 [.int z30])
 let z32:Int:=w64 (z30+1)
 let z33:Rows:=List.set z31 (Int.toNat i) (aD (nth z31 (Int.toNat i)) 17 [.int z32])
 let z34:Int:=w64 (z32+1)
 let z35:Rows:=List.set z33 (Int.toNat i) (aD (nth z33 (Int.toNat i)) 18 [.int z34])
 let z36:Int:=w64 (z34+1)
 let z37:Rows:=List.set z35 (Int.toNat i) (aD (nth z35 (Int.toNat i)) 19 [.int z36])
 let z38:Int:=w64 (z36+1)
 let z39:Rows:=List.set z37 (Int.toNat i) (aD (nth z37 (Int.toNat i)) 20 [.int z38])
 let z40:Int:=w64 (z38+1)
 let z41:Rows:=List.set z39 (Int.toNat i) (aD (nth z39 (Int.toNat i)) 21 [.int z40])
 let z42:Int:=w64 (z40+1)
 let z43:Rows:=List.set z41 (Int.toNat i) (aD (nth z41 (Int.toNat i)) 22 [.int z42])
 let z44:Int:=w64 (z42+1)
 let z45:Rows:=List.set z43 (Int.toNat i) (aD (nth z43 (Int.toNat i)) 23 [.int z44])
 let z46:Int:=w64 (z44+1)
 let z47:Rows:=List.set z45 (Int.toNat i) (aD (nth z45 (Int.toNat i)) 24 [.int z46])
 let z48:Int:=w64 (z46+1)
 let z49:Rows:=List.set z47 (Int.toNat i) (aD (nth z47 (Int.toNat i)) 25 [.str (lN z48)])
 let z50:Int:=w64 (z48+1)
 let z51:Rows:=List.set z49 (Int.toNat i) (aD (nth z49 (Int.toNat i)) 26 [.int z50])
 let z52:Int:=w64 (z50+1)
 let z53:Rows:=List.set z51 (Int.toNat i) (aD (nth z51 (Int.toNat i)) 27 [.int z52])
 let z54:Int:=w64 (z52+1)
 let z55:Rows:=List.set z53 (Int.toNat i) (aD (nth z53 (Int.toNat i)) 28 [.bool ((Int.tmod z54 3)==0)])
 let z56:Int:=w64 (z54+1)
 bif decide (i<len de) then
  bif ak (ak true (idx i de)) (inl (Int.toNat i) de) then
   bif ak (ak true (idx i z0)) (inl (Int.toNat i) z0) then
    bif ak (ak true (idx i z1)) (inl (Int.toNat i) z1) then
     bif ak (ak true (idx i z3)) (inl (Int.toNat i) z3) then
      bif ak (ak true (idx i z5)) (inl (Int.toNat i) z5) then
       bif ak (ak true (idx i z7)) (inl (Int.toNat i) z7) then
        bif ak (ak true (idx i z9)) (inl (Int.toNat i) z9) then
         bif ak (ak true (idx i Xx)) (inl (Int.toNat i) Xx) then
          bif ak (ak true (idx i z13)) (inl (Int.toNat i) z13) then
           bif ak (ak true (idx i z15)) (inl (Int.toNat i) z15) then
            bif ak (ak true (idx i z17)) (inl (Int.toNat i) z17) then
             bif ak (ak true (idx i z19)) (inl (Int.toNat i) z19) then
              bif ak (ak true (idx i z21)) (inl (Int.toNat i) z21) then
               bif ak (ak true (idx i z23)) (inl (Int.toNat i) z23) then
                bif ak (ak true (idx i z25)) (inl (Int.toNat i) z25) then
                 bif ak (ak true (idx i z27)) (inl (Int.toNat i) z27) then
                  bif ak (ak true (idx i z29)) (inl (Int.toNat i) z29) then
                   bif ak (ak true (idx i z31)) (inl (Int.toNat i) z31) then
                    bif ak (ak true (idx i z33)) (inl (Int.toNat i) z33) then
                     bif ak (ak true (idx i z35)) (inl (Int.toNat i) z35) then
                      bif ak (ak true (idx i z37)) (inl (Int.toNat i) z37) then
                       bif ak (ak true (idx i z39)) (inl (Int.toNat i) z39) then
                        bif ak (ak true (idx i z41)) (inl (Int.toNat i) z41) then
                         bif ak (ak true (idx i z43)) (inl (Int.toNat i) z43) then
                          bif ak (ak true (idx i z45)) (inl (Int.toNat i) z45) then
                           bif ak (ak true (idx i z47)) (inl (Int.toNat i) z47) then
                            bif ak (ak true (idx i z49)) (inl (Int.toNat i) z49) then
                             bif ak (ak true (idx i z51)) (inl (Int.toNat i) z51) then
                              bif ak (ak true (idx i z53)) (inl (Int.toNat i) z53) then
                               bif ak (ak true (idx i z55)) (inl (Int.toNat i) z55) then
                                bZ (w64 (z56+1)) (w64 (i+1)) (List.set z55 (Int.toNat i) (aD (nth z55 (Int.toNat i)) 29 [.int z56]))
                               else bad
                              else bad
                             else bad
                            else bad
                           else bad
                          else bad
                         else bad
                        else bad
                       else bad
                      else bad
                     else bad
                    else bad
                   else bad
                  else bad
                 else bad
                else bad
               else bad
              else bad
             else bad
            else bad
           else bad
          else bad
         else bad
        else bad
       else bad
      else bad
     else bad
    else bad
   else bad
  else bad
 else k_ aW de
def f8 {α:Type} (bad:α) (k_:Int→Rows→α) (N:Nat) (m_:Nat):Int→Int→Rows→α:=
 Nat.rec (motive:=fun _=>Int→Int→Rows→α) (fun _ _ _=>bad) (fun _ bZ=>js bad k_ bZ) m_
theorem Dv {α:Type} (bad:α) (k_:Int→Rows→α) (N:Nat) (m_:Nat) (aW:Int) (i:Int) (de:Rows):f8 bad k_ N (m_+1) aW i de=js bad k_ (f8 bad k_ N m_) aW i de:=rfl
def ra {α:Type} (bad:α) (k_:Int→Rows→α) (l0:Int→Int→Rows→α) (a:Rows) (k:Int):α:=
 l0 k 0 a
def q_ {α:Type} (bad:α) (k_:Int→Rows→α) (N:Nat) (a:Rows) (k:Int):α:=ra bad k_ (f8 bad k_ N N) a k
def oC (k:Int):List DC:=[.int (k),.int (k+1),.int (k+1+1),.int (k+1+1+1),.int (k+1+1+1+1),.int (k+1+1+1+1+1),.int (k+1+1+1+1+1+1),.int (k+1+1+1+1+1+1+1),.int (k+1+1+1+1+1+1+1+1),.int (k+1+1+1+1+1+1+1+1+1),.int (k+1+1+1+1+1+1+1+1+1+1),.int (k+1+1+1+1+1+1+1+1+1+1+1),.int (k+1+1+1+1+1+1+1+1+1+1+1+1),.int (k+1+1+1+1+1+1+1+1+1+1+1+1+1),.int (k+1+1+1+1+1+1+1+1+1+1+1+1+1+1),.int (k+1+1+1+1+1+1+1+1+1+1+1+1+1+1+1),.int (k+1+1+1+1+1+1+1+1+1+1+1+1+1+1+1+1),.int (k+1+1+1+1+1+1+1+1+1+1+1+1+1+1+1+1+1),.int (k+1+1+1+1+1+1+1+1+1+1+1+1+1+1+1+1+1+1),.int (k+1+1+1+1+1+1+1+1+1+1+1+1+1+1+1+1+1+1+1),.int (k+1+1+1+1+1+1+1+1+1+1+1+1+1+1+1+1+1+1+1+1),.int (k+1+1+1+1+1+1+1+1+1+1+1+1+1+1+1+1+1+1+1+1+1),.int (k+1+1+1+1+1+1+1+1+1+1+1+1+1+1+1+1+1+1+1+1+1+1),.int (k+1+1+1+1+1+1+1+1+1+1+1+1+1+1+1+1+1+1+1+1+1+1+1),.int (k+1+1+1+1+1+1+1+1+1+1+1+1+1+1+1+1+1+1+1+1+1+1+1+1),.str (lN (k+1+1+1+1+1+1+1+1+1+1+1+1+1+1+1+1+1+1+1+1+1+1+1+1+1)),.int (k+1+1+1+1+1+1+1+1+1+1+1+1+1+1+1+1+1+1+1+1+1+1+1+1+1+1),.int (k+1+1+1+1+1+1+1+1+1+1+1+1+1+1+1+1+1+1+1+1+1+1+1+1+1+1+1),.bool (Int.tmod (k+1+1+1+1+1+1+1+1+1+1+1+1+1+1+1+1+1+1+1+1+1+1+1+1+1+1+1+1) 3==0),.int (k+1+1+1+1+1+1+1+1+1+1+1+1+1+1+1+1+1+1+1+1+1+1+1+1+1+1+1+1+1)]
def te (a:Rows) (k:Int):Int×Rows:=(k+30*a.length,oh oC 30 a.length k)
theorem am3 (K:Int) (r:List DC) (hr:r.length=30):aD (aD (aD (aD (aD (aD (aD (aD (aD (aD (aD (aD (aD (aD (aD (aD (aD (aD (aD (aD (aD (aD (aD (aD (aD (aD (aD (aD (aD (aD r 0 [.int (K)]) 1 [.int (K+1)]) 2 [.int (K+1+1)]) 3 [.int (K+1+1+1)]) 4 [.int (K+1+1+1+1)]) 5 [.int (K+1+1+1+1+1)]) 6 [.int (K+1+1+1+1+1+1)]) 7 [.int (K+1+1+1+1+1+1+1)]) 8 [.int (K+1+1+1+1+1+1+1+1)]) 9 [.int (K+1+1+1+1+1+1+1+1+1)]) 10 [.int (K+1+1+1+1+1+1+1+1+1+1)]) 11 [.int (K+1+1+1+1+1+1+1+1+1+1+1)]) 12 [.int (K+1+1+1+1+1+1+1+1+1+1+1+1)]) 13 [.int (K+1+1+1+1+1+1+1+1+1+1+1+1+1)]) 14 [.int (K+1+1+1+1+1+1+1+1+1+1+1+1+1+1)]) 15 [.int (K+1+1+1+1+1+1+1+1+1+1+1+1+1+1+1)]) 16 [.int (K+1+1+1+1+1+1+1+1+1+1+1+1+1+1+1+1)]) 17 [.int (K+1+1+1+1+1+1+1+1+1+1+1+1+1+1+1+1+1)]) 18 [.int (K+1+1+1+1+1+1+1+1+1+1+1+1+1+1+1+1+1+1)]) 19 [.int (K+1+1+1+1+1+1+1+1+1+1+1+1+1+1+1+1+1+1+1)]) 20 [.int (K+1+1+1+1+1+1+1+1+1+1+1+1+1+1+1+1+1+1+1+1)]) 21 [.int (K+1+1+1+1+1+1+1+1+1+1+1+1+1+1+1+1+1+1+1+1+1)]) 22 [.int (K+1+1+1+1+1+1+1+1+1+1+1+1+1+1+1+1+1+1+1+1+1+1)]) 23 [.int (K+1+1+1+1+1+1+1+1+1+1+1+1+1+1+1+1+1+1+1+1+1+1+1)]) 24 [.int (K+1+1+1+1+1+1+1+1+1+1+1+1+1+1+1+1+1+1+1+1+1+1+1+1)]) 25 [.str (lN (K+1+1+1+1+1+1+1+1+1+1+1+1+1+1+1+1+1+1+1+1+1+1+1+1+1))]) 26 [.int (K+1+1+1+1+1+1+1+1+1+1+1+1+1+1+1+1+1+1+1+1+1+1+1+1+1+1)]) 27 [.int (K+1+1+1+1+1+1+1+1+1+1+1+1+1+1+1+1+1+1+1+1+1+1+1+1+1+1+1)]) 28 [.bool (Int.tmod (K+1+1+1+1+1+1+1+1+1+1+1+1+1+1+1+1+1+1+1+1+1+1+1+1+1+1+1+1) 3==0)]) 29 [.int (K+1+1+1+1+1+1+1+1+1+1+1+1+1+1+1+1+1+1+1+1+1+1+1+1+1+1+1+1+1)]=oC K:=by
 obtain⟨a0,r1,rfl,h1⟩:=bO hr
 obtain⟨a1,r2,rfl,h2⟩:=bO h1
 obtain⟨a2,r3,rfl,h3⟩:=bO h2
 obtain⟨a3,r4,rfl,h4⟩:=bO h3
 obtain⟨a4,r5,rfl,h5⟩:=bO h4
 obtain⟨a5,r6,rfl,h6⟩:=bO h5
 obtain⟨a6,r7,rfl,h7⟩:=bO h6
 obtain⟨a7,r8,rfl,h8⟩:=bO h7
 obtain⟨a8,r9,rfl,h9⟩:=bO h8
 obtain⟨a9,r10,rfl,h10⟩:=bO h9
 obtain⟨a10,r11,rfl,h11⟩:=bO h10
 obtain⟨a11,r12,rfl,h12⟩:=bO h11
 obtain⟨a12,r13,rfl,h13⟩:=bO h12
 obtain⟨a13,r14,rfl,h14⟩:=bO h13
 obtain⟨a14,r15,rfl,h15⟩:=bO h14
 obtain⟨a15,r16,rfl,h16⟩:=bO h15
 obtain⟨a16,r17,rfl,h17⟩:=bO h16
 obtain⟨a17,r18,rfl,h18⟩:=bO h17
 obtain⟨a18,r19,rfl,h19⟩:=bO h18
 obtain⟨a19,r20,rfl,h20⟩:=bO h19
 obtain⟨a20,r21,rfl,h21⟩:=bO h20
 obtain⟨a21,r22,rfl,h22⟩:=bO h21
 obtain⟨a22,r23,rfl,h23⟩:=bO h22
 obtain⟨a23,r24,rfl,h24⟩:=bO h23
 obtain⟨a24,r25,rfl,h25⟩:=bO h24
 obtain⟨a25,r26,rfl,h26⟩:=bO h25
 obtain⟨a26,r27,rfl,h27⟩:=bO h26
 obtain⟨a27,r28,rfl,h28⟩:=bO h27
 obtain⟨a28,r29,rfl,h29⟩:=bO h28
 obtain⟨a29,r30,rfl,h30⟩:=bO h29
 obtain rfl:=List.length_eq_zero_iff.1 h30
 kernel_rfl
theorem QP {α:Type} (bad:α) (k_:Int→Rows→α) (a:Rows) (k:Int) (bT:WtC (.sl [.int .i64,.int .i64,.int .i64,.int .i64,.int .i64,.int .i64,.int .i64,.int .i64,.int .i64,.int .i64,.int .i64,.int .i64,.int .i64,.int .i64,.int .i64,.int .i64,.int .i64,.int .i64,.int .i64,.int .i64,.int .i64,.int .i64,.int .i64,.int .i64,.int .i64,.str,.int .i64,.int .i64,.bool,.int .i64]) (.sl a)) (qX:WtC (.int .i64) (.int k)) (hok:Bs 30 a k=true):∃N,q_ bad k_ N a k=k_ (te a k).1 (te a k).2:=by
 obtain⟨hl,hw⟩:=cU bT
 obtain⟨h1,h2,h3⟩:=yT hok
 refine⟨a.length+1, ?_⟩
 unfold q_ ra te
 refine yC a k 30 oC (f8 bad k_ (a.length+1)) k_ ?_ ?_
 ·intro n i b h hb hn
  rw[Dv]
  have PF:0≤k+30*(i:Int):=by omega
  have MS:k+30*(i:Int)≤1125901000000000000:=by omega
  generalize k+30*(i:Int)=K at PF MS ⊢
  have b0:0≤K∧K≤1125901000000000000:=⟨PF,MS⟩
  obtain⟨w1,b1⟩:=aR b0 (by decide)
  obtain⟨w2,b2⟩:=aR b1 (by decide)
  obtain⟨w3,b3⟩:=aR b2 (by decide)
  obtain⟨w4,b4⟩:=aR b3 (by decide)
  obtain⟨w5,b5⟩:=aR b4 (by decide)
  obtain⟨w6,b6⟩:=aR b5 (by decide)
  obtain⟨w7,b7⟩:=aR b6 (by decide)
  obtain⟨w8,b8⟩:=aR b7 (by decide)
  obtain⟨w9,b9⟩:=aR b8 (by decide)
  obtain⟨w10,b10⟩:=aR b9 (by decide)
  obtain⟨w11,b11⟩:=aR b10 (by decide)
  obtain⟨w12,b12⟩:=aR b11 (by decide)
  obtain⟨w13,b13⟩:=aR b12 (by decide)
  obtain⟨w14,b14⟩:=aR b13 (by decide)
  obtain⟨w15,b15⟩:=aR b14 (by decide)
  obtain⟨w16,b16⟩:=aR b15 (by decide)
  obtain⟨w17,b17⟩:=aR b16 (by decide)
  obtain⟨w18,b18⟩:=aR b17 (by decide)
  obtain⟨w19,b19⟩:=aR b18 (by decide)
  obtain⟨w20,b20⟩:=aR b19 (by decide)
  obtain⟨w21,b21⟩:=aR b20 (by decide)
  obtain⟨w22,b22⟩:=aR b21 (by decide)
  obtain⟨w23,b23⟩:=aR b22 (by decide)
  obtain⟨w24,b24⟩:=aR b23 (by decide)
  obtain⟨w25,b25⟩:=aR b24 (by decide)
  obtain⟨w26,b26⟩:=aR b25 (by decide)
  obtain⟨w27,b27⟩:=aR b26 (by decide)
  obtain⟨w28,b28⟩:=aR b27 (by decide)
  obtain⟨w29,b29⟩:=aR b28 (by decide)
  obtain⟨w30,b30⟩:=aR b29 (by decide)
  have hr:=AO (hw (nth a i) (gK h))
  have DS:i<b.length:=by omega
  simp only[js,ch DS,bw DS,eI DS,bu h hl,Int.toNat_natCast,ah,ao,cond_true,hn,w1,w2,w3,w4,w5,w6,w7,w8,w9,w10,w11,w12,w13,w14,w15,w16,w17,w18,w19,w20,w21,w22,w23,w24,w25,w26,w27,w28,w29,w30,FI,FJ,List.set_set,FK DS]
  rw[show K+1+1+1+1+1+1+1+1+1+1+1+1+1+1+1+1+1+1+1+1+1+1+1+1+1+1+1+1+1+1=K+30 by simp only[Int.add_assoc];rfl,am3 K (nth a i) hr]
 ·intro n b hb
  rw[Dv]
  simp only[js,←hb,aQ,cond_false]
def jt {α:Type} (bad:α) (k_:Int→α) (a:Rows) (bZ:Int→Int→α) (aW:Int) (i:Int):α:=
 let z0:Int:=w64 ((w64 (aW+1))+1)
 let z1:Int:=w64 (z0+1)
 let z2:Int:=w64 (z1+1)
 let z3:Int:=w64 (z2+1)
 let z4:Int:=w64 (z3+1)
 let z5:Int:=w64 (z4+1)
 let z6:Int:=w64 (z5+1)
 let z7:Int:=w64 (z6+1)
 let z8:Int:=w64 (z7+1)
 let z9:Int:=w64 (z8+1)
 let z10:Int:=w64 (z9+1)
 let Xx:Int:=w64 (z10+1)
 let z12:Int:=w64 (Xx+1)
 let z13:Int:=w64 (z12+1)
 let z14:Int:=w64 (z13+1)
 let z15:Int:=w64 (z14+1)
 let z16:Int:=w64 (z15+1)
 let z17:Int:=w64 (z16+1)
 let z18:Int:=w64 (z17+1)
 let z19:Int:=w64 (z18+1)
 let z20:Int:=w64 (z19+1)
 let z21:Int:=w64 (z20+1)
 let z22:Int:=w64 (z21+1)
 let z23:Int:=w64 (z22+1)
 let z24:Int:=w64 (z23+1)
 let z25:Int:=w64 (z24+1)
 let z26:Int:=w64 (z25+1)
 let z27:Int:=w64 (z26+1)
 bif decide (i<len a) then
  bif ak true (idx i a) then
   bif (rI (nth a (Int.toNat i)) 0) != aW then k_ (-1)
   else bif ak true (idx i a) then
     bif (rI (nth a (Int.toNat i)) 1) != (w64 (aW+1)) then k_ (-1)
     else bif ak true (idx i a) then
       bif (rI (nth a (Int.toNat i)) 2) != z0 then k_ (-1)
       else bif ak true (idx i a) then
         bif (rI (nth a (Int.toNat i)) 3) != z1 then k_ (-1)
         else bif ak true (idx i a) then
           bif (rI (nth a (Int.toNat i)) 4) != z2 then k_ (-1)
           else bif ak true (idx i a) then
             bif (rI (nth a (Int.toNat i)) 5) != z3 then k_ (-1)
             else bif ak true (idx i a) then
               bif (rI (nth a (Int.toNat i)) 6) != z4 then k_ (-1)
               else bif ak true (idx i a) then
                 bif (rI (nth a (Int.toNat i)) 7) != z5 then k_ (-1)
                 else bif ak true (idx i a) then
                   bif (rI (nth a (Int.toNat i)) 8) != z6 then k_ (-1)
                   else bif ak true (idx i a) then
                     bif (rI (nth a (Int.toNat i)) 9) != z7 then k_ (-1)
                     else bif ak true (idx i a) then
                       bif (rI (nth a (Int.toNat i)) 10) != z8 then k_ (-1)
                       else bif ak true (idx i a) then
                         bif (rI (nth a (Int.toNat i)) 11) != z9 then k_ (-1)
                         else bif ak true (idx i a) then
                           bif (rI (nth a (Int.toNat i)) 12) != z10 then k_ (-1)
                           else bif ak true (idx i a) then
                             bif (rI (nth a (Int.toNat i)) 13) != Xx then k_ (-1)
                             else bif ak true (idx i a) then
                               bif (rI (nth a (Int.toNat i)) 14) != z12 then k_ (-1)
                               else bif ak true (idx i a) then
                                 bif (rI (nth a (Int.toNat i)) 15) != z13 then k_ (-1)
                                 else bif ak true (idx i a) then
                                   bif (rI (nth a (Int.toNat i)) 16) != z14 then k_ (-1)
                                   else bif ak true (idx i a) then
                                     bif (rI (nth a (Int.toNat i)) 17) != z15 then k_ (-1)
                                     else bif ak true (idx i a) then
                                       bif (rI (nth a (Int.toNat i)) 18) != z16 then k_ (-1)
                                       else bif ak true (idx i a) then
                                         bif (rI (nth a (Int.toNat i)) 19) != z17 then k_ (-1)
                                         else bif ak true (idx i a) then
                                           bif (rI (nth a (Int.toNat i)) 20) != z18 then k_ (-1)
                                           else bif ak true (idx i a) then
                                             bif (rI (nth a (Int.toNat i)) 21) != z19 then k_ (-1)
                                             else bif ak true (idx i a) then
                                               bif (rI (nth a (Int.toNat i)) 22) != z20 then k_ (-1)
                                               else bif ak true (idx i a) then
                                                 bif (rI (nth a (Int.toNat i)) 23) != z21 then k_ (-1)
                                                 else bif ak true (idx i a) then
                                                   bif (rI (nth a (Int.toNat i)) 24) != z22 then k_ (-1)
                                                   else bif ak true (idx i a) then
                                                     bif !((rS (nth a (Int.toNat i)) 25)==(lN z23)) then k_ (-1)
                                                     else bif ak true (idx i a) then
                                                       bif (rI (nth a (Int.toNat i)) 26) != z24 then k_ (-1)
                                                       else bif ak true (idx i a) then
                                                         bif (rI (nth a (Int.toNat i)) 27) != z25 then k_ (-1)
                                                         else bif ak true (idx i a) then
                                                           bif !((rB (nth a (Int.toNat i)) 28)==((Int.tmod z26 3)==0)) then k_ (-1)
                                                           else bif ak true (idx i a) then
                                                             bif (rI (nth a (Int.toNat i)) 29) != z27 then k_ (-1)
                                                             else bZ (w64 (z27+1)) (w64 (i+1))
                                                            else bad
                                                          else bad
                                                        else bad
                                                      else bad
                                                    else bad
                                                  else bad
                                                else bad
                                              else bad
                                            else bad
                                          else bad
                                        else bad
                                      else bad
                                    else bad
                                  else bad
                                else bad
                              else bad
                            else bad
                          else bad
                        else bad
                      else bad
                    else bad
                  else bad
                else bad
              else bad
            else bad
          else bad
        else bad
      else bad
    else bad
  else bad
 else k_ aW
def gb {α:Type} (bad:α) (k_:Int→α) (N:Nat) (a:Rows) (m_:Nat):Int→Int→α:=
 Nat.rec (motive:=fun _=>Int→Int→α) (fun _ _=>bad) (fun _ bZ=>jt bad k_ a bZ) m_
theorem Dw {α:Type} (bad:α) (k_:Int→α) (N:Nat) (a:Rows) (m_:Nat) (aW:Int) (i:Int):gb bad k_ N a (m_+1) aW i=jt bad k_ a (gb bad k_ N a m_) aW i:=rfl
def rh {α:Type} (bad:α) (k_:Int→α) (l0:Int→Int→α) (a:Rows) (k:Int):α:=
 l0 k 0
def rf {α:Type} (bad:α) (k_:Int→α) (N:Nat) (a:Rows) (k:Int):α:=rh bad k_ (gb bad k_ N a N) a k
def xn (a:Rows) (k:Int):Int:=k+30*a.length
theorem QT {α:Type} (bad:α) (k_:Int→α) (a:Rows) (k:Int) (bT:WtC (.sl [.int .i64,.int .i64,.int .i64,.int .i64,.int .i64,.int .i64,.int .i64,.int .i64,.int .i64,.int .i64,.int .i64,.int .i64,.int .i64,.int .i64,.int .i64,.int .i64,.int .i64,.int .i64,.int .i64,.int .i64,.int .i64,.int .i64,.int .i64,.int .i64,.int .i64,.str,.int .i64,.int .i64,.bool,.int .i64]) (.sl a)) (qX:WtC (.int .i64) (.int k)) (hok:DR oC 30 a k=true):∃N,rf bad k_ N a k=k_ (xn a k):=by
 obtain⟨hl,hw⟩:=cU bT
 obtain⟨h0,h1,h2,h3⟩:=MQ hok
 refine⟨a.length+1, ?_⟩
 unfold rf rh xn
 refine yD a k 30 oC (gb bad k_ (a.length+1) a) k_ h0 ?_ ?_
 ·intro n i h hn
  rw[Dw]
  have PF:0≤k+30*(i:Int):=by omega
  have MS:k+30*(i:Int)≤1125901000000000000:=by omega
  generalize k+30*(i:Int)=K at hn PF MS ⊢
  have b0:0≤K∧K≤1125901000000000000:=⟨PF,MS⟩
  obtain⟨w1,b1⟩:=aR b0 (by decide)
  obtain⟨w2,b2⟩:=aR b1 (by decide)
  obtain⟨w3,b3⟩:=aR b2 (by decide)
  obtain⟨w4,b4⟩:=aR b3 (by decide)
  obtain⟨w5,b5⟩:=aR b4 (by decide)
  obtain⟨w6,b6⟩:=aR b5 (by decide)
  obtain⟨w7,b7⟩:=aR b6 (by decide)
  obtain⟨w8,b8⟩:=aR b7 (by decide)
  obtain⟨w9,b9⟩:=aR b8 (by decide)
  obtain⟨w10,b10⟩:=aR b9 (by decide)
  obtain⟨w11,b11⟩:=aR b10 (by decide)
  obtain⟨w12,b12⟩:=aR b11 (by decide)
  obtain⟨w13,b13⟩:=aR b12 (by decide)
  obtain⟨w14,b14⟩:=aR b13 (by decide)
  obtain⟨w15,b15⟩:=aR b14 (by decide)
  obtain⟨w16,b16⟩:=aR b15 (by decide)
  obtain⟨w17,b17⟩:=aR b16 (by decide)
  obtain⟨w18,b18⟩:=aR b17 (by decide)
  obtain⟨w19,b19⟩:=aR b18 (by decide)
  obtain⟨w20,b20⟩:=aR b19 (by decide)
  obtain⟨w21,b21⟩:=aR b20 (by decide)
  obtain⟨w22,b22⟩:=aR b21 (by decide)
  obtain⟨w23,b23⟩:=aR b22 (by decide)
  obtain⟨w24,b24⟩:=aR b23 (by decide)
  obtain⟨w25,b25⟩:=aR b24 (by decide)
  obtain⟨w26,b26⟩:=aR b25 (by decide)
  obtain⟨w27,b27⟩:=aR b26 (by decide)
  obtain⟨w28,b28⟩:=aR b27 (by decide)
  obtain⟨w29,b29⟩:=aR b28 (by decide)
  obtain⟨w30,b30⟩:=aR b29 (by decide)
  have r0:rI (nth a i) 0=K:=by rw[hn];rfl
  have r1:rI (nth a i) 1=K+1:=by rw[hn];rfl
  have r2:rI (nth a i) 2=K+1+1:=by rw[hn];rfl
  have r3:rI (nth a i) 3=K+1+1+1:=by rw[hn];rfl
  have r4:rI (nth a i) 4=K+1+1+1+1:=by rw[hn];rfl
  have r5:rI (nth a i) 5=K+1+1+1+1+1:=by rw[hn];rfl
  have r6:rI (nth a i) 6=K+1+1+1+1+1+1:=by rw[hn];rfl
  have r7:rI (nth a i) 7=K+1+1+1+1+1+1+1:=by rw[hn];rfl
  have r8:rI (nth a i) 8=K+1+1+1+1+1+1+1+1:=by rw[hn];rfl
  have r9:rI (nth a i) 9=K+1+1+1+1+1+1+1+1+1:=by rw[hn];rfl
  have r10:rI (nth a i) 10=K+1+1+1+1+1+1+1+1+1+1:=by rw[hn];rfl
  have r11:rI (nth a i) 11=K+1+1+1+1+1+1+1+1+1+1+1:=by rw[hn];rfl
  have r12:rI (nth a i) 12=K+1+1+1+1+1+1+1+1+1+1+1+1:=by rw[hn];rfl
  have r13:rI (nth a i) 13=K+1+1+1+1+1+1+1+1+1+1+1+1+1:=by rw[hn];rfl
  have r14:rI (nth a i) 14=K+1+1+1+1+1+1+1+1+1+1+1+1+1+1:=by rw[hn];rfl
  have r15:rI (nth a i) 15=K+1+1+1+1+1+1+1+1+1+1+1+1+1+1+1:=by rw[hn];rfl
  have r16:rI (nth a i) 16=K+1+1+1+1+1+1+1+1+1+1+1+1+1+1+1+1:=by rw[hn];rfl
  have r17:rI (nth a i) 17=K+1+1+1+1+1+1+1+1+1+1+1+1+1+1+1+1+1:=by rw[hn];rfl
  have r18:rI (nth a i) 18=K+1+1+1+1+1+1+1+1+1+1+1+1+1+1+1+1+1+1:=by rw[hn];rfl
  have r19:rI (nth a i) 19=K+1+1+1+1+1+1+1+1+1+1+1+1+1+1+1+1+1+1+1:=by rw[hn];rfl
  have r20:rI (nth a i) 20=K+1+1+1+1+1+1+1+1+1+1+1+1+1+1+1+1+1+1+1+1:=by rw[hn];rfl
  have r21:rI (nth a i) 21=K+1+1+1+1+1+1+1+1+1+1+1+1+1+1+1+1+1+1+1+1+1:=by rw[hn];rfl
  have r22:rI (nth a i) 22=K+1+1+1+1+1+1+1+1+1+1+1+1+1+1+1+1+1+1+1+1+1+1:=by rw[hn];rfl
  have r23:rI (nth a i) 23=K+1+1+1+1+1+1+1+1+1+1+1+1+1+1+1+1+1+1+1+1+1+1+1:=by rw[hn];rfl
  have r24:rI (nth a i) 24=K+1+1+1+1+1+1+1+1+1+1+1+1+1+1+1+1+1+1+1+1+1+1+1+1:=by rw[hn];rfl
  have r25:rS (nth a i) 25=lN (K+1+1+1+1+1+1+1+1+1+1+1+1+1+1+1+1+1+1+1+1+1+1+1+1+1):=by rw[hn];rfl
  have r26:rI (nth a i) 26=K+1+1+1+1+1+1+1+1+1+1+1+1+1+1+1+1+1+1+1+1+1+1+1+1+1+1:=by rw[hn];rfl
  have r27:rI (nth a i) 27=K+1+1+1+1+1+1+1+1+1+1+1+1+1+1+1+1+1+1+1+1+1+1+1+1+1+1+1:=by rw[hn];rfl
  have r28:rB (nth a i) 28=(Int.tmod (K+1+1+1+1+1+1+1+1+1+1+1+1+1+1+1+1+1+1+1+1+1+1+1+1+1+1+1+1) 3==0):=by rw[hn];rfl
  have r29:rI (nth a i) 29=K+1+1+1+1+1+1+1+1+1+1+1+1+1+1+1+1+1+1+1+1+1+1+1+1+1+1+1+1+1:=by rw[hn];rfl
  simp only[jt,ch h,bw h,bu h hl,Int.toNat_natCast,ah,ao,cond_true,w1,w2,w3,w4,w5,w6,w7,w8,w9,w10,w11,w12,w13,w14,w15,w16,w17,w18,w19,w20,w21,w22,w23,w24,w25,w26,w27,w28,w29,w30,r0,r1,r2,r3,r4,r5,r6,r7,r8,r9,r10,r11,r12,r13,r14,r15,r16,r17,r18,r19,r20,r21,r22,r23,r24,r25,r26,r27,r28,r29,bne_self_eq_false,beq_self_eq_true,Bool.not_true,cond_false]
  rw[show K+1+1+1+1+1+1+1+1+1+1+1+1+1+1+1+1+1+1+1+1+1+1+1+1+1+1+1+1+1+1=K+30 by simp only[Int.add_assoc];rfl]
 ·intro n
  rw[Dw]
  simp only[jt,aQ,cond_false]
def pT {α:Type} (bad:α) (k_:Int→Rows→α) (bZ:Int→Int→Rows→α) (aW:Int) (i:Int) (de:Rows):α:=
 let z0:Rows:=List.set de (Int.toNat i) (aD (nth de (Int.toNat i)) 0 [.int aW])
 let z1:Rows:=List.set z0 (Int.toNat i) (aD (nth z0 (Int.toNat i)) 1 [.int (w64 (aW+1))])
 let z2:Int:=w64 ((w64 (aW+1))+1)
 let z3:Rows:=List.set z1 (Int.toNat i) (aD (nth z1 (Int.toNat i)) 2 [.int z2])
 let z4:Int:=w64 (z2+1)
 let z5:Rows:=List.set z3 (Int.toNat i) (aD (nth z3 (Int.toNat i)) 3 [.int z4])
 let z6:Int:=w64 (z4+1)
 let z7:Rows:=List.set z5 (Int.toNat i) (aD (nth z5 (Int.toNat i)) 4 [.int z6])
 let z8:Int:=w64 (z6+1)
 let z9:Rows:=List.set z7 (Int.toNat i) (aD (nth z7 (Int.toNat i)) 5 [.int z8])
 let z10:Int:=w64 (z8+1)
 let Xx:Rows:=List.set z9 (Int.toNat i) (aD (nth z9 (Int.toNat i)) 6 [.int z10])
 let z12:Int:=w64 (z10+1)
 let z13:Rows:=List.set Xx (Int.toNat i) (aD (nth Xx (Int.toNat i)) 7 [.int z12])
 let z14:Int:=w64 (z12+1)
 bif decide (i<len de) then
  bif ak (ak true (idx i de)) (inl (Int.toNat i) de) then
   bif ak (ak true (idx i z0)) (inl (Int.toNat i) z0) then
    bif ak (ak true (idx i z1)) (inl (Int.toNat i) z1) then
     bif ak (ak true (idx i z3)) (inl (Int.toNat i) z3) then
      bif ak (ak true (idx i z5)) (inl (Int.toNat i) z5) then
       bif ak (ak true (idx i z7)) (inl (Int.toNat i) z7) then
        bif ak (ak true (idx i z9)) (inl (Int.toNat i) z9) then
         bif ak (ak true (idx i Xx)) (inl (Int.toNat i) Xx) then
          bif ak (ak true (idx i z13)) (inl (Int.toNat i) z13) then
           bZ (w64 (z14+1)) (w64 (i+1)) (List.set z13 (Int.toNat i) (aD (nth z13 (Int.toNat i)) 8 [.int z14]))
          else bad
         else bad
        else bad
       else bad
      else bad
     else bad
    else bad
   else bad
  else bad
 else k_ aW de
def j3 {α:Type} (bad:α) (k_:Int→Rows→α) (N:Nat) (m_:Nat):Int→Int→Rows→α:=
 Nat.rec (motive:=fun _=>Int→Int→Rows→α) (fun _ _ _=>bad) (fun _ bZ=>pT bad k_ bZ) m_
theorem Hc {α:Type} (bad:α) (k_:Int→Rows→α) (N:Nat) (m_:Nat) (aW:Int) (i:Int) (de:Rows):j3 bad k_ N (m_+1) aW i de=pT bad k_ (j3 bad k_ N m_) aW i de:=rfl
def xt {α:Type} (bad:α) (k_:Int→Rows→α) (l0:Int→Int→Rows→α) (a:Rows) (k:Int):α:=
 l0 k 0 a
def xr {α:Type} (bad:α) (k_:Int→Rows→α) (N:Nat) (a:Rows) (k:Int):α:=xt bad k_ (j3 bad k_ N N) a k
def F8 (k:Int):List DC:=[.int (k),.int (k+1),.int (k+1+1),.int (k+1+1+1),.int (k+1+1+1+1),.int (k+1+1+1+1+1),.int (k+1+1+1+1+1+1),.int (k+1+1+1+1+1+1+1),.int (k+1+1+1+1+1+1+1+1)]
def xo (a:Rows) (k:Int):Int×Rows:=(k+9*a.length,oh F8 9 a.length k)
theorem apO (K:Int) (r:List DC) (hr:r.length=9):aD (aD (aD (aD (aD (aD (aD (aD (aD r 0 [.int (K)]) 1 [.int (K+1)]) 2 [.int (K+1+1)]) 3 [.int (K+1+1+1)]) 4 [.int (K+1+1+1+1)]) 5 [.int (K+1+1+1+1+1)]) 6 [.int (K+1+1+1+1+1+1)]) 7 [.int (K+1+1+1+1+1+1+1)]) 8 [.int (K+1+1+1+1+1+1+1+1)]=F8 K:=by
 obtain⟨a0,r1,rfl,h1⟩:=bO hr
 obtain⟨a1,r2,rfl,h2⟩:=bO h1
 obtain⟨a2,r3,rfl,h3⟩:=bO h2
 obtain⟨a3,r4,rfl,h4⟩:=bO h3
 obtain⟨a4,r5,rfl,h5⟩:=bO h4
 obtain⟨a5,r6,rfl,h6⟩:=bO h5
 obtain⟨a6,r7,rfl,h7⟩:=bO h6
 obtain⟨a7,r8,rfl,h8⟩:=bO h7
 obtain⟨a8,r9,rfl,h9⟩:=bO h8
 obtain rfl:=List.length_eq_zero_iff.1 h9
 kernel_rfl
theorem YF {α:Type} (bad:α) (k_:Int→Rows→α) (a:Rows) (k:Int) (bT:WtC (.sl [.int .i64,.int .i64,.int .i64,.int .i64,.int .i64,.int .i64,.int .i64,.int .i64,.int .i64]) (.sl a)) (qX:WtC (.int .i64) (.int k)) (hok:Bs 9 a k=true):∃N,xr bad k_ N a k=k_ (xo a k).1 (xo a k).2:=by
 obtain⟨hl,hw⟩:=cU bT
 obtain⟨h1,h2,h3⟩:=yT hok
 refine⟨a.length+1, ?_⟩
 unfold xr xt xo
 refine yC a k 9 F8 (j3 bad k_ (a.length+1)) k_ ?_ ?_
 ·intro n i b h hb hn
  rw[Hc]
  have PF:0≤k+9*(i:Int):=by omega
  have MS:k+9*(i:Int)≤1125901000000000000:=by omega
  generalize k+9*(i:Int)=K at PF MS ⊢
  have b0:0≤K∧K≤1125901000000000000:=⟨PF,MS⟩
  obtain⟨w1,b1⟩:=aR b0 (by decide)
  obtain⟨w2,b2⟩:=aR b1 (by decide)
  obtain⟨w3,b3⟩:=aR b2 (by decide)
  obtain⟨w4,b4⟩:=aR b3 (by decide)
  obtain⟨w5,b5⟩:=aR b4 (by decide)
  obtain⟨w6,b6⟩:=aR b5 (by decide)
  obtain⟨w7,b7⟩:=aR b6 (by decide)
  obtain⟨w8,b8⟩:=aR b7 (by decide)
  obtain⟨w9,b9⟩:=aR b8 (by decide)
  have hr:=AO (hw (nth a i) (gK h))
  have DS:i<b.length:=by omega
  simp only[pT,ch DS,bw DS,eI DS,bu h hl,Int.toNat_natCast,ah,ao,cond_true,hn,w1,w2,w3,w4,w5,w6,w7,w8,w9,FI,FJ,List.set_set,FK DS]
  rw[show K+1+1+1+1+1+1+1+1+1=K+9 by simp only[Int.add_assoc];rfl,apO K (nth a i) hr]
 ·intro n b hb
  rw[Hc]
  simp only[pT,←hb,aQ,cond_false]
def pU {α:Type} (bad:α) (k_:Int→α) (a:Rows) (bZ:Int→Int→α) (aW:Int) (i:Int):α:=
 let z0:Int:=w64 ((w64 (aW+1))+1)
 let z1:Int:=w64 (z0+1)
 let z2:Int:=w64 (z1+1)
 let z3:Int:=w64 (z2+1)
 let z4:Int:=w64 (z3+1)
 let z5:Int:=w64 (z4+1)
 let z6:Int:=w64 (z5+1)
 bif decide (i<len a) then
  bif ak true (idx i a) then
   bif (rI (nth a (Int.toNat i)) 0) != aW then k_ (-1)
   else bif ak true (idx i a) then
     bif (rI (nth a (Int.toNat i)) 1) != (w64 (aW+1)) then k_ (-1)
     else bif ak true (idx i a) then
       bif (rI (nth a (Int.toNat i)) 2) != z0 then k_ (-1)
       else bif ak true (idx i a) then
         bif (rI (nth a (Int.toNat i)) 3) != z1 then k_ (-1)
         else bif ak true (idx i a) then
           bif (rI (nth a (Int.toNat i)) 4) != z2 then k_ (-1)
           else bif ak true (idx i a) then
             bif (rI (nth a (Int.toNat i)) 5) != z3 then k_ (-1)
             else bif ak true (idx i a) then
               bif (rI (nth a (Int.toNat i)) 6) != z4 then k_ (-1)
               else bif ak true (idx i a) then
                 bif (rI (nth a (Int.toNat i)) 7) != z5 then k_ (-1)
                 else bif ak true (idx i a) then
                   bif (rI (nth a (Int.toNat i)) 8) != z6 then k_ (-1)
                   else bZ (w64 (z6+1)) (w64 (i+1))
                  else bad
                else bad
              else bad
            else bad
          else bad
        else bad
      else bad
    else bad
  else bad
 else k_ aW
def j6 {α:Type} (bad:α) (k_:Int→α) (N:Nat) (a:Rows) (m_:Nat):Int→Int→α:=
 Nat.rec (motive:=fun _=>Int→Int→α) (fun _ _=>bad) (fun _ bZ=>pU bad k_ a bZ) m_
theorem Hd {α:Type} (bad:α) (k_:Int→α) (N:Nat) (a:Rows) (m_:Nat) (aW:Int) (i:Int):j6 bad k_ N a (m_+1) aW i=pU bad k_ a (j6 bad k_ N a m_) aW i:=rfl
def xx {α:Type} (bad:α) (k_:Int→α) (l0:Int→Int→α) (a:Rows) (k:Int):α:=
 l0 k 0
def xw {α:Type} (bad:α) (k_:Int→α) (N:Nat) (a:Rows) (k:Int):α:=xx bad k_ (j6 bad k_ N a N) a k
def Be (a:Rows) (k:Int):Int:=k+9*a.length
theorem YJ {α:Type} (bad:α) (k_:Int→α) (a:Rows) (k:Int) (bT:WtC (.sl [.int .i64,.int .i64,.int .i64,.int .i64,.int .i64,.int .i64,.int .i64,.int .i64,.int .i64]) (.sl a)) (qX:WtC (.int .i64) (.int k)) (hok:DR F8 9 a k=true):∃N,xw bad k_ N a k=k_ (Be a k):=by
 obtain⟨hl,hw⟩:=cU bT
 obtain⟨h0,h1,h2,h3⟩:=MQ hok
 refine⟨a.length+1, ?_⟩
 unfold xw xx Be
 refine yD a k 9 F8 (j6 bad k_ (a.length+1) a) k_ h0 ?_ ?_
 ·intro n i h hn
  rw[Hd]
  have PF:0≤k+9*(i:Int):=by omega
  have MS:k+9*(i:Int)≤1125901000000000000:=by omega
  generalize k+9*(i:Int)=K at hn PF MS ⊢
  have b0:0≤K∧K≤1125901000000000000:=⟨PF,MS⟩
  obtain⟨w1,b1⟩:=aR b0 (by decide)
  obtain⟨w2,b2⟩:=aR b1 (by decide)
  obtain⟨w3,b3⟩:=aR b2 (by decide)
  obtain⟨w4,b4⟩:=aR b3 (by decide)
  obtain⟨w5,b5⟩:=aR b4 (by decide)
  obtain⟨w6,b6⟩:=aR b5 (by decide)
  obtain⟨w7,b7⟩:=aR b6 (by decide)
  obtain⟨w8,b8⟩:=aR b7 (by decide)
  obtain⟨w9,b9⟩:=aR b8 (by decide)
  have r0:rI (nth a i) 0=K:=by rw[hn];rfl
  have r1:rI (nth a i) 1=K+1:=by rw[hn];rfl
  have r2:rI (nth a i) 2=K+1+1:=by rw[hn];rfl
  have r3:rI (nth a i) 3=K+1+1+1:=by rw[hn];rfl
  have r4:rI (nth a i) 4=K+1+1+1+1:=by rw[hn];rfl
  have r5:rI (nth a i) 5=K+1+1+1+1+1:=by rw[hn];rfl
  have r6:rI (nth a i) 6=K+1+1+1+1+1+1:=by rw[hn];rfl
  have r7:rI (nth a i) 7=K+1+1+1+1+1+1+1:=by rw[hn];rfl
  have r8:rI (nth a i) 8=K+1+1+1+1+1+1+1+1:=by rw[hn];rfl
  simp only[pU,ch h,bw h,bu h hl,Int.toNat_natCast,ah,ao,cond_true,w1,w2,w3,w4,w5,w6,w7,w8,w9,r0,r1,r2,r3,r4,r5,r6,r7,r8,bne_self_eq_false,beq_self_eq_true,Bool.not_true,cond_false]
  rw[show K+1+1+1+1+1+1+1+1+1=K+9 by simp only[Int.add_assoc];rfl]
 ·intro n
  rw[Hd]
  simp only[pU,aQ,cond_false]
def ju {α:Type} (bad:α) (k_:Int→Rows→α) (bZ:Int→Int→Rows→α) (aW:Int) (i:Int) (de:Rows):α:=
 let z0:Rows:=List.set de (Int.toNat i) (aD (nth de (Int.toNat i)) 0 [.int aW])
 let z1:Rows:=List.set z0 (Int.toNat i) (aD (nth z0 (Int.toNat i)) 1 [.int (w64 (aW+1))])
 let z2:Int:=w64 ((w64 (aW+1))+1)
 let z3:Rows:=List.set z1 (Int.toNat i) (aD (nth z1 (Int.toNat i)) 2 [.int z2])
 let z4:Int:=w64 (z2+1)
 bif decide (i<len de) then
  bif ak (ak true (idx i de)) (inl (Int.toNat i) de) then
   bif ak (ak true (idx i z0)) (inl (Int.toNat i) z0) then
    bif ak (ak true (idx i z1)) (inl (Int.toNat i) z1) then
     bif ak (ak true (idx i z3)) (inl (Int.toNat i) z3) then
      bZ (w64 (z4+1)) (w64 (i+1)) (List.set z3 (Int.toNat i) (aD (nth z3 (Int.toNat i)) 3 [.bool ((Int.tmod z4 3)==0)]))
     else bad
    else bad
   else bad
  else bad
 else k_ aW de
def gh {α:Type} (bad:α) (k_:Int→Rows→α) (N:Nat) (m_:Nat):Int→Int→Rows→α:=
 Nat.rec (motive:=fun _=>Int→Int→Rows→α) (fun _ _ _=>bad) (fun _ bZ=>ju bad k_ bZ) m_
theorem Dx {α:Type} (bad:α) (k_:Int→Rows→α) (N:Nat) (m_:Nat) (aW:Int) (i:Int) (de:Rows):gh bad k_ N (m_+1) aW i de=ju bad k_ (gh bad k_ N m_) aW i de:=rfl
def rl {α:Type} (bad:α) (k_:Int→Rows→α) (l0:Int→Int→Rows→α) (a:Rows) (k:Int):α:=
 l0 k 0 a
def rk {α:Type} (bad:α) (k_:Int→Rows→α) (N:Nat) (a:Rows) (k:Int):α:=rl bad k_ (gh bad k_ N N) a k
def oD (k:Int):List DC:=[.int (k),.int (k+1),.int (k+1+1),.bool (Int.tmod (k+1+1+1) 3==0)]
def tf (a:Rows) (k:Int):Int×Rows:=(k+4*a.length,oh oD 4 a.length k)
theorem am4 (K:Int) (r:List DC) (hr:r.length=4):aD (aD (aD (aD r 0 [.int (K)]) 1 [.int (K+1)]) 2 [.int (K+1+1)]) 3 [.bool (Int.tmod (K+1+1+1) 3==0)]=oD K:=by
 obtain⟨a0,r1,rfl,h1⟩:=bO hr
 obtain⟨a1,r2,rfl,h2⟩:=bO h1
 obtain⟨a2,r3,rfl,h3⟩:=bO h2
 obtain⟨a3,r4,rfl,h4⟩:=bO h3
 obtain rfl:=List.length_eq_zero_iff.1 h4
 kernel_rfl
theorem QX {α:Type} (bad:α) (k_:Int→Rows→α) (a:Rows) (k:Int) (bT:WtC (.sl [.int .i64,.int .i64,.int .i64,.bool]) (.sl a)) (qX:WtC (.int .i64) (.int k)) (hok:Bs 4 a k=true):∃N,rk bad k_ N a k=k_ (tf a k).1 (tf a k).2:=by
 obtain⟨hl,hw⟩:=cU bT
 obtain⟨h1,h2,h3⟩:=yT hok
 refine⟨a.length+1, ?_⟩
 unfold rk rl tf
 refine yC a k 4 oD (gh bad k_ (a.length+1)) k_ ?_ ?_
 ·intro n i b h hb hn
  rw[Dx]
  have PF:0≤k+4*(i:Int):=by omega
  have MS:k+4*(i:Int)≤1125901000000000000:=by omega
  generalize k+4*(i:Int)=K at PF MS ⊢
  have b0:0≤K∧K≤1125901000000000000:=⟨PF,MS⟩
  obtain⟨w1,b1⟩:=aR b0 (by decide)
  obtain⟨w2,b2⟩:=aR b1 (by decide)
  obtain⟨w3,b3⟩:=aR b2 (by decide)
  obtain⟨w4,b4⟩:=aR b3 (by decide)
  have hr:=AO (hw (nth a i) (gK h))
  have DS:i<b.length:=by omega
  simp only[ju,ch DS,bw DS,eI DS,bu h hl,Int.toNat_natCast,ah,ao,cond_true,hn,w1,w2,w3,w4,FI,FJ,List.set_set,FK DS]
  rw[show K+1+1+1+1=K+4 by simp only[Int.add_assoc];rfl,am4 K (nth a i) hr]
 ·intro n b hb
  rw[Dx]
  simp only[ju,←hb,aQ,cond_false]
def jv {α:Type} (bad:α) (k_:Int→α) (a:Rows) (bZ:Int→Int→α) (aW:Int) (i:Int):α:=
 let z0:Int:=w64 ((w64 (aW+1))+1)
 let z1:Int:=w64 (z0+1)
 bif decide (i<len a) then
  bif ak true (idx i a) then
   bif (rI (nth a (Int.toNat i)) 0) != aW then k_ (-1)
   else bif ak true (idx i a) then
     bif (rI (nth a (Int.toNat i)) 1) != (w64 (aW+1)) then k_ (-1)
     else bif ak true (idx i a) then
       bif (rI (nth a (Int.toNat i)) 2) != z0 then k_ (-1)
       else bif ak true (idx i a) then
         bif !((rB (nth a (Int.toNat i)) 3)==((Int.tmod z1 3)==0)) then k_ (-1)
         else bZ (w64 (z1+1)) (w64 (i+1))
        else bad
      else bad
    else bad
  else bad
 else k_ aW
def gk {α:Type} (bad:α) (k_:Int→α) (N:Nat) (a:Rows) (m_:Nat):Int→Int→α:=
 Nat.rec (motive:=fun _=>Int→Int→α) (fun _ _=>bad) (fun _ bZ=>jv bad k_ a bZ) m_
theorem Dy {α:Type} (bad:α) (k_:Int→α) (N:Nat) (a:Rows) (m_:Nat) (aW:Int) (i:Int):gk bad k_ N a (m_+1) aW i=jv bad k_ a (gk bad k_ N a m_) aW i:=rfl
def rq {α:Type} (bad:α) (k_:Int→α) (l0:Int→Int→α) (a:Rows) (k:Int):α:=
 l0 k 0
def rp {α:Type} (bad:α) (k_:Int→α) (N:Nat) (a:Rows) (k:Int):α:=rq bad k_ (gk bad k_ N a N) a k
def xy (a:Rows) (k:Int):Int:=k+4*a.length
theorem Ra {α:Type} (bad:α) (k_:Int→α) (a:Rows) (k:Int) (bT:WtC (.sl [.int .i64,.int .i64,.int .i64,.bool]) (.sl a)) (qX:WtC (.int .i64) (.int k)) (hok:DR oD 4 a k=true):∃N,rp bad k_ N a k=k_ (xy a k):=by
 obtain⟨hl,hw⟩:=cU bT
 obtain⟨h0,h1,h2,h3⟩:=MQ hok
 refine⟨a.length+1, ?_⟩
 unfold rp rq xy
 refine yD a k 4 oD (gk bad k_ (a.length+1) a) k_ h0 ?_ ?_
 ·intro n i h hn
  rw[Dy]
  have PF:0≤k+4*(i:Int):=by omega
  have MS:k+4*(i:Int)≤1125901000000000000:=by omega
  generalize k+4*(i:Int)=K at hn PF MS ⊢
  have b0:0≤K∧K≤1125901000000000000:=⟨PF,MS⟩
  obtain⟨w1,b1⟩:=aR b0 (by decide)
  obtain⟨w2,b2⟩:=aR b1 (by decide)
  obtain⟨w3,b3⟩:=aR b2 (by decide)
  obtain⟨w4,b4⟩:=aR b3 (by decide)
  have r0:rI (nth a i) 0=K:=by rw[hn];rfl
  have r1:rI (nth a i) 1=K+1:=by rw[hn];rfl
  have r2:rI (nth a i) 2=K+1+1:=by rw[hn];rfl
  have r3:rB (nth a i) 3=(Int.tmod (K+1+1+1) 3==0):=by rw[hn];rfl
  simp only[jv,ch h,bw h,bu h hl,Int.toNat_natCast,ah,ao,cond_true,w1,w2,w3,w4,r0,r1,r2,r3,bne_self_eq_false,beq_self_eq_true,Bool.not_true,cond_false]
  rw[show K+1+1+1+1=K+4 by simp only[Int.add_assoc];rfl]
 ·intro n
  rw[Dy]
  simp only[jv,aQ,cond_false]
def lL {α:Type} (bad:α) (k_:Int→Rows→α) (bZ:Int→Int→Rows→α) (aW:Int) (i:Int) (de:Rows):α:=
 let z0:Rows:=List.set de (Int.toNat i) (aD (nth de (Int.toNat i)) 0 [.int aW])
 let z1:Rows:=List.set z0 (Int.toNat i) (aD (nth z0 (Int.toNat i)) 1 [.int (w64 (aW+1))])
 let z2:Int:=w64 ((w64 (aW+1))+1)
 let z3:Rows:=List.set z1 (Int.toNat i) (aD (nth z1 (Int.toNat i)) 2 [.int z2])
 let z4:Int:=w64 (z2+1)
 let z5:Rows:=List.set z3 (Int.toNat i) (aD (nth z3 (Int.toNat i)) 3 [.int z4])
 let z6:Int:=w64 (z4+1)
 let z7:Rows:=List.set z5 (Int.toNat i) (aD (nth z5 (Int.toNat i)) 4 [.bool ((Int.tmod z6 3)==0)])
 let z8:Int:=w64 (z6+1)
 bif decide (i<len de) then
  bif ak (ak true (idx i de)) (inl (Int.toNat i) de) then
   bif ak (ak true (idx i z0)) (inl (Int.toNat i) z0) then
    bif ak (ak true (idx i z1)) (inl (Int.toNat i) z1) then
     bif ak (ak true (idx i z3)) (inl (Int.toNat i) z3) then
      bif ak (ak true (idx i z5)) (inl (Int.toNat i) z5) then
       bif ak (ak true (idx i z7)) (inl (Int.toNat i) z7) then
        bZ (w64 (z8+1)) (w64 (i+1)) (List.set z7 (Int.toNat i) (aD (nth z7 (Int.toNat i)) 5 [.bool ((Int.tmod z8 3)==0)]))
       else bad
      else bad
     else bad
    else bad
   else bad
  else bad
 else k_ aW de
def gV {α:Type} (bad:α) (k_:Int→Rows→α) (N:Nat) (m_:Nat):Int→Int→Rows→α:=
 Nat.rec (motive:=fun _=>Int→Int→Rows→α) (fun _ _ _=>bad) (fun _ bZ=>lL bad k_ bZ) m_
theorem DV {α:Type} (bad:α) (k_:Int→Rows→α) (N:Nat) (m_:Nat) (aW:Int) (i:Int) (de:Rows):gV bad k_ N (m_+1) aW i de=lL bad k_ (gV bad k_ N m_) aW i de:=rfl
def tl {α:Type} (bad:α) (k_:Int→Rows→α) (l0:Int→Int→Rows→α) (a:Rows) (k:Int):α:=
 l0 k 0 a
def tk {α:Type} (bad:α) (k_:Int→Rows→α) (N:Nat) (a:Rows) (k:Int):α:=tl bad k_ (gV bad k_ N N) a k
def t5 (k:Int):List DC:=[.int (k),.int (k+1),.int (k+1+1),.int (k+1+1+1),.bool (Int.tmod (k+1+1+1+1) 3==0),.bool (Int.tmod (k+1+1+1+1+1) 3==0)]
def vL (a:Rows) (k:Int):Int×Rows:=(k+6*a.length,oh t5 6 a.length k)
theorem anZ (K:Int) (r:List DC) (hr:r.length=6):aD (aD (aD (aD (aD (aD r 0 [.int (K)]) 1 [.int (K+1)]) 2 [.int (K+1+1)]) 3 [.int (K+1+1+1)]) 4 [.bool (Int.tmod (K+1+1+1+1) 3==0)]) 5 [.bool (Int.tmod (K+1+1+1+1+1) 3==0)]=t5 K:=by
 obtain⟨a0,r1,rfl,h1⟩:=bO hr
 obtain⟨a1,r2,rfl,h2⟩:=bO h1
 obtain⟨a2,r3,rfl,h3⟩:=bO h2
 obtain⟨a3,r4,rfl,h4⟩:=bO h3
 obtain⟨a4,r5,rfl,h5⟩:=bO h4
 obtain⟨a5,r6,rfl,h6⟩:=bO h5
 obtain rfl:=List.length_eq_zero_iff.1 h6
 kernel_rfl
theorem Tl {α:Type} (bad:α) (k_:Int→Rows→α) (a:Rows) (k:Int) (bT:WtC (.sl [.int .i64,.int .i64,.int .i64,.int .i64,.bool,.bool]) (.sl a)) (qX:WtC (.int .i64) (.int k)) (hok:Bs 6 a k=true):∃N,tk bad k_ N a k=k_ (vL a k).1 (vL a k).2:=by
 obtain⟨hl,hw⟩:=cU bT
 obtain⟨h1,h2,h3⟩:=yT hok
 refine⟨a.length+1, ?_⟩
 unfold tk tl vL
 refine yC a k 6 t5 (gV bad k_ (a.length+1)) k_ ?_ ?_
 ·intro n i b h hb hn
  rw[DV]
  have PF:0≤k+6*(i:Int):=by omega
  have MS:k+6*(i:Int)≤1125901000000000000:=by omega
  generalize k+6*(i:Int)=K at PF MS ⊢
  have b0:0≤K∧K≤1125901000000000000:=⟨PF,MS⟩
  obtain⟨w1,b1⟩:=aR b0 (by decide)
  obtain⟨w2,b2⟩:=aR b1 (by decide)
  obtain⟨w3,b3⟩:=aR b2 (by decide)
  obtain⟨w4,b4⟩:=aR b3 (by decide)
  obtain⟨w5,b5⟩:=aR b4 (by decide)
  obtain⟨w6,b6⟩:=aR b5 (by decide)
  have hr:=AO (hw (nth a i) (gK h))
  have DS:i<b.length:=by omega
  simp only[lL,ch DS,bw DS,eI DS,bu h hl,Int.toNat_natCast,ah,ao,cond_true,hn,w1,w2,w3,w4,w5,w6,FI,FJ,List.set_set,FK DS]
  rw[show K+1+1+1+1+1+1=K+6 by simp only[Int.add_assoc];rfl,anZ K (nth a i) hr]
 ·intro n b hb
  rw[DV]
  simp only[lL,←hb,aQ,cond_false]
def lM {α:Type} (bad:α) (k_:Int→α) (a:Rows) (bZ:Int→Int→α) (aW:Int) (i:Int):α:=
 let z0:Int:=w64 ((w64 (aW+1))+1)
 let z1:Int:=w64 (z0+1)
 let z2:Int:=w64 (z1+1)
 let z3:Int:=w64 (z2+1)
 bif decide (i<len a) then
  bif ak true (idx i a) then
   bif (rI (nth a (Int.toNat i)) 0) != aW then k_ (-1)
   else bif ak true (idx i a) then
     bif (rI (nth a (Int.toNat i)) 1) != (w64 (aW+1)) then k_ (-1)
     else bif ak true (idx i a) then
       bif (rI (nth a (Int.toNat i)) 2) != z0 then k_ (-1)
       else bif ak true (idx i a) then
         bif (rI (nth a (Int.toNat i)) 3) != z1 then k_ (-1)
         else bif ak true (idx i a) then
           bif !((rB (nth a (Int.toNat i)) 4)==((Int.tmod z2 3)==0)) then k_ (-1)
           else bif ak true (idx i a) then
             bif !((rB (nth a (Int.toNat i)) 5)==((Int.tmod z3 3)==0)) then k_ (-1)
             else bZ (w64 (z3+1)) (w64 (i+1))
            else bad
          else bad
        else bad
      else bad
    else bad
  else bad
 else k_ aW
def gY {α:Type} (bad:α) (k_:Int→α) (N:Nat) (a:Rows) (m_:Nat):Int→Int→α:=
 Nat.rec (motive:=fun _=>Int→Int→α) (fun _ _=>bad) (fun _ bZ=>lM bad k_ a bZ) m_
theorem DW {α:Type} (bad:α) (k_:Int→α) (N:Nat) (a:Rows) (m_:Nat) (aW:Int) (i:Int):gY bad k_ N a (m_+1) aW i=lM bad k_ a (gY bad k_ N a m_) aW i:=rfl
def tu {α:Type} (bad:α) (k_:Int→α) (l0:Int→Int→α) (a:Rows) (k:Int):α:=
 l0 k 0
def tr {α:Type} (bad:α) (k_:Int→α) (N:Nat) (a:Rows) (k:Int):α:=tu bad k_ (gY bad k_ N a N) a k
def Bf (a:Rows) (k:Int):Int:=k+6*a.length
theorem Tp {α:Type} (bad:α) (k_:Int→α) (a:Rows) (k:Int) (bT:WtC (.sl [.int .i64,.int .i64,.int .i64,.int .i64,.bool,.bool]) (.sl a)) (qX:WtC (.int .i64) (.int k)) (hok:DR t5 6 a k=true):∃N,tr bad k_ N a k=k_ (Bf a k):=by
 obtain⟨hl,hw⟩:=cU bT
 obtain⟨h0,h1,h2,h3⟩:=MQ hok
 refine⟨a.length+1, ?_⟩
 unfold tr tu Bf
 refine yD a k 6 t5 (gY bad k_ (a.length+1) a) k_ h0 ?_ ?_
 ·intro n i h hn
  rw[DW]
  have PF:0≤k+6*(i:Int):=by omega
  have MS:k+6*(i:Int)≤1125901000000000000:=by omega
  generalize k+6*(i:Int)=K at hn PF MS ⊢
  have b0:0≤K∧K≤1125901000000000000:=⟨PF,MS⟩
  obtain⟨w1,b1⟩:=aR b0 (by decide)
  obtain⟨w2,b2⟩:=aR b1 (by decide)
  obtain⟨w3,b3⟩:=aR b2 (by decide)
  obtain⟨w4,b4⟩:=aR b3 (by decide)
  obtain⟨w5,b5⟩:=aR b4 (by decide)
  obtain⟨w6,b6⟩:=aR b5 (by decide)
  have r0:rI (nth a i) 0=K:=by rw[hn];rfl
  have r1:rI (nth a i) 1=K+1:=by rw[hn];rfl
  have r2:rI (nth a i) 2=K+1+1:=by rw[hn];rfl
  have r3:rI (nth a i) 3=K+1+1+1:=by rw[hn];rfl
  have r4:rB (nth a i) 4=(Int.tmod (K+1+1+1+1) 3==0):=by rw[hn];rfl
  have r5:rB (nth a i) 5=(Int.tmod (K+1+1+1+1+1) 3==0):=by rw[hn];rfl
  simp only[lM,ch h,bw h,bu h hl,Int.toNat_natCast,ah,ao,cond_true,w1,w2,w3,w4,w5,w6,r0,r1,r2,r3,r4,r5,bne_self_eq_false,beq_self_eq_true,Bool.not_true,cond_false]
  rw[show K+1+1+1+1+1+1=K+6 by simp only[Int.add_assoc];rfl]
 ·intro n
  rw[DW]
  simp only[lM,aQ,cond_false]
def pV {α:Type} (bad:α) (k_:Int→Rows→α) (bZ:Int→Int→Rows→α) (aW:Int) (i:Int) (de:Rows):α:=
 let z0:Rows:=List.set de (Int.toNat i) (aD (nth de (Int.toNat i)) 0 [.int aW])
 let z1:Rows:=List.set z0 (Int.toNat i) (aD (nth z0 (Int.toNat i)) 1 [.int (w64 (aW+1))])
 let z2:Int:=w64 ((w64 (aW+1))+1)
 let z3:Rows:=List.set z1 (Int.toNat i) (aD (nth z1 (Int.toNat i)) 2 [.int z2])
 let z4:Int:=w64 (z2+1)
 let z5:Rows:=List.set z3 (Int.toNat i) (aD (nth z3 (Int.toNat i)) 3 [.int z4])
 let z6:Int:=w64 (z4+1)
 let z7:Rows:=List.set z5 (Int.toNat i) (aD (nth z5 (Int.toNat i)) 4 [.int z6])
 let z8:Int:=w64 (z6+1)
 let z9:Rows:=List.set z7 (Int.toNat i) (aD (nth z7 (Int.toNat i)) 5 [.int z8])
 let z10:Int:=w64 (z8+1)
 bif decide (i<len de) then
  bif ak (ak true (idx i de)) (inl (Int.toNat i) de) then
   bif ak (ak true (idx i z0)) (inl (Int.toNat i) z0) then
    bif ak (ak true (idx i z1)) (inl (Int.toNat i) z1) then
     bif ak (ak true (idx i z3)) (inl (Int.toNat i) z3) then
      bif ak (ak true (idx i z5)) (inl (Int.toNat i) z5) then
       bif ak (ak true (idx i z7)) (inl (Int.toNat i) z7) then
        bif ak (ak true (idx i z9)) (inl (Int.toNat i) z9) then
         bZ (w64 (z10+1)) (w64 (i+1)) (List.set z9 (Int.toNat i) (aD (nth z9 (Int.toNat i)) 6 [.int z10]))
        else bad
       else bad
      else bad
     else bad
    else bad
   else bad
  else bad
 else k_ aW de
def j9 {α:Type} (bad:α) (k_:Int→Rows→α) (N:Nat) (m_:Nat):Int→Int→Rows→α:=
 Nat.rec (motive:=fun _=>Int→Int→Rows→α) (fun _ _ _=>bad) (fun _ bZ=>pV bad k_ bZ) m_
theorem He {α:Type} (bad:α) (k_:Int→Rows→α) (N:Nat) (m_:Nat) (aW:Int) (i:Int) (de:Rows):j9 bad k_ N (m_+1) aW i de=pV bad k_ (j9 bad k_ N m_) aW i de:=rfl
def xC {α:Type} (bad:α) (k_:Int→Rows→α) (l0:Int→Int→Rows→α) (a:Rows) (k:Int):α:=
 l0 k 0 a
def xB {α:Type} (bad:α) (k_:Int→Rows→α) (N:Nat) (a:Rows) (k:Int):α:=xC bad k_ (j9 bad k_ N N) a k
def F9 (k:Int):List DC:=[.int (k),.int (k+1),.int (k+1+1),.int (k+1+1+1),.int (k+1+1+1+1),.int (k+1+1+1+1+1),.int (k+1+1+1+1+1+1)]
def Bg (a:Rows) (k:Int):Int×Rows:=(k+7*a.length,oh F9 7 a.length k)
theorem apP (K:Int) (r:List DC) (hr:r.length=7):aD (aD (aD (aD (aD (aD (aD r 0 [.int (K)]) 1 [.int (K+1)]) 2 [.int (K+1+1)]) 3 [.int (K+1+1+1)]) 4 [.int (K+1+1+1+1)]) 5 [.int (K+1+1+1+1+1)]) 6 [.int (K+1+1+1+1+1+1)]=F9 K:=by
 obtain⟨a0,r1,rfl,h1⟩:=bO hr
 obtain⟨a1,r2,rfl,h2⟩:=bO h1
 obtain⟨a2,r3,rfl,h3⟩:=bO h2
 obtain⟨a3,r4,rfl,h4⟩:=bO h3
 obtain⟨a4,r5,rfl,h5⟩:=bO h4
 obtain⟨a5,r6,rfl,h6⟩:=bO h5
 obtain⟨a6,r7,rfl,h7⟩:=bO h6
 obtain rfl:=List.length_eq_zero_iff.1 h7
 kernel_rfl
theorem YN {α:Type} (bad:α) (k_:Int→Rows→α) (a:Rows) (k:Int) (bT:WtC (.sl [.int .i64,.int .i64,.int .i64,.int .i64,.int .i64,.int .i64,.int .i64]) (.sl a)) (qX:WtC (.int .i64) (.int k)) (hok:Bs 7 a k=true):∃N,xB bad k_ N a k=k_ (Bg a k).1 (Bg a k).2:=by
 obtain⟨hl,hw⟩:=cU bT
 obtain⟨h1,h2,h3⟩:=yT hok
 refine⟨a.length+1, ?_⟩
 unfold xB xC Bg
 refine yC a k 7 F9 (j9 bad k_ (a.length+1)) k_ ?_ ?_
 ·intro n i b h hb hn
  rw[He]
  have PF:0≤k+7*(i:Int):=by omega
  have MS:k+7*(i:Int)≤1125901000000000000:=by omega
  generalize k+7*(i:Int)=K at PF MS ⊢
  have b0:0≤K∧K≤1125901000000000000:=⟨PF,MS⟩
  obtain⟨w1,b1⟩:=aR b0 (by decide)
  obtain⟨w2,b2⟩:=aR b1 (by decide)
  obtain⟨w3,b3⟩:=aR b2 (by decide)
  obtain⟨w4,b4⟩:=aR b3 (by decide)
  obtain⟨w5,b5⟩:=aR b4 (by decide)
  obtain⟨w6,b6⟩:=aR b5 (by decide)
  obtain⟨w7,b7⟩:=aR b6 (by decide)
  have hr:=AO (hw (nth a i) (gK h))
  have DS:i<b.length:=by omega
  simp only[pV,ch DS,bw DS,eI DS,bu h hl,Int.toNat_natCast,ah,ao,cond_true,hn,w1,w2,w3,w4,w5,w6,w7,FI,FJ,List.set_set,FK DS]
  rw[show K+1+1+1+1+1+1+1=K+7 by simp only[Int.add_assoc];rfl,apP K (nth a i) hr]
 ·intro n b hb
  rw[He]
  simp only[pV,←hb,aQ,cond_false]
def pW {α:Type} (bad:α) (k_:Int→α) (a:Rows) (bZ:Int→Int→α) (aW:Int) (i:Int):α:=
 let z0:Int:=w64 ((w64 (aW+1))+1)
 let z1:Int:=w64 (z0+1)
 let z2:Int:=w64 (z1+1)
 let z3:Int:=w64 (z2+1)
 let z4:Int:=w64 (z3+1)
 bif decide (i<len a) then
  bif ak true (idx i a) then
   bif (rI (nth a (Int.toNat i)) 0) != aW then k_ (-1)
   else bif ak true (idx i a) then
     bif (rI (nth a (Int.toNat i)) 1) != (w64 (aW+1)) then k_ (-1)
     else bif ak true (idx i a) then
       bif (rI (nth a (Int.toNat i)) 2) != z0 then k_ (-1)
       else bif ak true (idx i a) then
         bif (rI (nth a (Int.toNat i)) 3) != z1 then k_ (-1)
         else bif ak true (idx i a) then
           bif (rI (nth a (Int.toNat i)) 4) != z2 then k_ (-1)
           else bif ak true (idx i a) then
             bif (rI (nth a (Int.toNat i)) 5) != z3 then k_ (-1)
             else bif ak true (idx i a) then
               bif (rI (nth a (Int.toNat i)) 6) != z4 then k_ (-1)
               else bZ (w64 (z4+1)) (w64 (i+1))
              else bad
            else bad
          else bad
        else bad
      else bad
    else bad
  else bad
 else k_ aW
def kc {α:Type} (bad:α) (k_:Int→α) (N:Nat) (a:Rows) (m_:Nat):Int→Int→α:=
 Nat.rec (motive:=fun _=>Int→Int→α) (fun _ _=>bad) (fun _ bZ=>pW bad k_ a bZ) m_
theorem Hf {α:Type} (bad:α) (k_:Int→α) (N:Nat) (a:Rows) (m_:Nat) (aW:Int) (i:Int):kc bad k_ N a (m_+1) aW i=pW bad k_ a (kc bad k_ N a m_) aW i:=rfl
def xG {α:Type} (bad:α) (k_:Int→α) (l0:Int→Int→α) (a:Rows) (k:Int):α:=
 l0 k 0
def xF {α:Type} (bad:α) (k_:Int→α) (N:Nat) (a:Rows) (k:Int):α:=xG bad k_ (kc bad k_ N a N) a k
def D3 (a:Rows) (k:Int):Int:=k+7*a.length
theorem YR {α:Type} (bad:α) (k_:Int→α) (a:Rows) (k:Int) (bT:WtC (.sl [.int .i64,.int .i64,.int .i64,.int .i64,.int .i64,.int .i64,.int .i64]) (.sl a)) (qX:WtC (.int .i64) (.int k)) (hok:DR F9 7 a k=true):∃N,xF bad k_ N a k=k_ (D3 a k):=by
 obtain⟨hl,hw⟩:=cU bT
 obtain⟨h0,h1,h2,h3⟩:=MQ hok
 refine⟨a.length+1, ?_⟩
 unfold xF xG D3
 refine yD a k 7 F9 (kc bad k_ (a.length+1) a) k_ h0 ?_ ?_
 ·intro n i h hn
  rw[Hf]
  have PF:0≤k+7*(i:Int):=by omega
  have MS:k+7*(i:Int)≤1125901000000000000:=by omega
  generalize k+7*(i:Int)=K at hn PF MS ⊢
  have b0:0≤K∧K≤1125901000000000000:=⟨PF,MS⟩
  obtain⟨w1,b1⟩:=aR b0 (by decide)
  obtain⟨w2,b2⟩:=aR b1 (by decide)
  obtain⟨w3,b3⟩:=aR b2 (by decide)
  obtain⟨w4,b4⟩:=aR b3 (by decide)
  obtain⟨w5,b5⟩:=aR b4 (by decide)
  obtain⟨w6,b6⟩:=aR b5 (by decide)
  obtain⟨w7,b7⟩:=aR b6 (by decide)
  have r0:rI (nth a i) 0=K:=by rw[hn];rfl
  have r1:rI (nth a i) 1=K+1:=by rw[hn];rfl
  have r2:rI (nth a i) 2=K+1+1:=by rw[hn];rfl
  have r3:rI (nth a i) 3=K+1+1+1:=by rw[hn];rfl
  have r4:rI (nth a i) 4=K+1+1+1+1:=by rw[hn];rfl
  have r5:rI (nth a i) 5=K+1+1+1+1+1:=by rw[hn];rfl
  have r6:rI (nth a i) 6=K+1+1+1+1+1+1:=by rw[hn];rfl
  simp only[pW,ch h,bw h,bu h hl,Int.toNat_natCast,ah,ao,cond_true,w1,w2,w3,w4,w5,w6,w7,r0,r1,r2,r3,r4,r5,r6,bne_self_eq_false,beq_self_eq_true,Bool.not_true,cond_false]
  rw[show K+1+1+1+1+1+1+1=K+7 by simp only[Int.add_assoc];rfl]
 ·intro n
  rw[Hf]
  simp only[pW,aQ,cond_false]
end
end Go.Proofs.YthpmalpdnnbkgaaGreat.Pl
