/- What functions of the program compute, in plain Lean, as the value machine runs them. Conditions: none. -/
import Derived.Test.YthpmalpdnnbkgaaGreatPDm
import Derived.Test.YthpmalpdnnbkgaaGreatBit
import Derived.Test.YthpmalpdnnbkgaaGreatPRg
set_option linter.unusedVariables false
set_option linter.unusedSimpArgs false
set_option maxRecDepth 100000
namespace Go.Proofs.YthpmalpdnnbkgaaGreat.Pl
open Vm
noncomputable section
def kf {α:Type} (bad:α) (k_:Int→Rows→α) (a:aK) (k:Int):α:=
 bif ak true (Bs 1 a.dm k) then
  k_ ((lY a.dm k).1) ((lY a.dm k).2)
 else bad
def yV (a:aK) (k:Int):Bool:=kf false (fun _ _=>true) a k
def tw (a:aK) (k:Int):Int×Rows:=(kf none (fun r0 r1=>some (r0,r1)) a k).getD (0,[])
theorem VE {α:Type} (bad:α) (k_:Int→Rows→α) (a:aK) (k:Int) (hok:yV a k=true):kf bad k_ a k=k_ (tw a k).1 (tw a k).2:=by
 exact part_all (K:=fun r:Int×Rows=>k_ r.1 r.2) (part_guard (fun _=>⟨_,rfl,rfl⟩)) hok
def kg {α:Type} (bad:α) (k_:Int→α) (a:aK) (k:Int):α:=
 bif ak true (DR gw 1 a.dm k) then
  bif decide (lZ a.dm k<0) then k_ (-1)
  else k_ (lZ a.dm k)
 else bad
def yW (a:aK) (k:Int):Bool:=kg false (fun _=>true) a k
def AP (a:aK) (k:Int):Int:=(kg none (fun r0=>some (r0)) a k).getD 0
theorem VI {α:Type} (bad:α) (k_:Int→α) (a:aK) (k:Int) (hok:yW a k=true):kg bad k_ a k=k_ (AP a k):=by
 exact part_all (K:=fun r:Int=>k_ r) (part_guard (part_cond part_leaf part_leaf)) hok
def oI {α:Type} (bad:α) (k_:Int→Rows→α) (a:aJ) (k:Int):α:=
 bif ak true (Bs 1 a.dn k) then
  k_ ((fl a.dn k).1) ((fl a.dn k).2)
 else bad
def Fv (a:aJ) (k:Int):Bool:=oI false (fun _ _=>true) a k
def BM (a:aJ) (k:Int):Int×Rows:=(oI none (fun r0 r1=>some (r0,r1)) a k).getD (0,[])
theorem acz {α:Type} (bad:α) (k_:Int→Rows→α) (a:aJ) (k:Int) (hok:Fv a k=true):oI bad k_ a k=k_ (BM a k).1 (BM a k).2:=by
 exact part_all (K:=fun r:Int×Rows=>k_ r.1 r.2) (part_guard (fun _=>⟨_,rfl,rfl⟩)) hok
def oJ {α:Type} (bad:α) (k_:Int→α) (a:aJ) (k:Int):α:=
 bif ak true (DR eN 1 a.dn k) then
  bif decide (ez a.dn k<0) then k_ (-1)
  else k_ (ez a.dn k)
 else bad
def Fw (a:aJ) (k:Int):Bool:=oJ false (fun _=>true) a k
def HS (a:aJ) (k:Int):Int:=(oJ none (fun r0=>some (r0)) a k).getD 0
theorem acD {α:Type} (bad:α) (k_:Int→α) (a:aJ) (k:Int) (hok:Fw a k=true):oJ bad k_ a k=k_ (HS a k):=by
 exact part_all (K:=fun r:Int=>k_ r) (part_guard (part_cond part_leaf part_leaf)) hok
def kh {α:Type} (bad:α) (k_:Int→Rows→α) (a:aI) (k:Int):α:=
 bif ak true (Bs 1 a.cW k) then
  k_ ((fl a.cW k).1) ((fl a.cW k).2)
 else bad
def yX (a:aI) (k:Int):Bool:=kh false (fun _ _=>true) a k
def AQ (a:aI) (k:Int):Int×Rows:=(kh none (fun r0 r1=>some (r0,r1)) a k).getD (0,[])
theorem VM {α:Type} (bad:α) (k_:Int→Rows→α) (a:aI) (k:Int) (hok:yX a k=true):kh bad k_ a k=k_ (AQ a k).1 (AQ a k).2:=by
 exact part_all (K:=fun r:Int×Rows=>k_ r.1 r.2) (part_guard (fun _=>⟨_,rfl,rfl⟩)) hok
def ki {α:Type} (bad:α) (k_:Int→α) (a:aI) (k:Int):α:=
 bif ak true (DR eN 1 a.cW k) then
  bif decide (ez a.cW k<0) then k_ (-1)
  else k_ (ez a.cW k)
 else bad
def yY (a:aI) (k:Int):Bool:=ki false (fun _=>true) a k
def HT (a:aI) (k:Int):Int:=(ki none (fun r0=>some (r0)) a k).getD 0
theorem VQ {α:Type} (bad:α) (k_:Int→α) (a:aI) (k:Int) (hok:yY a k=true):ki bad k_ a k=k_ (HT a k):=by
 exact part_all (K:=fun r:Int=>k_ r) (part_guard (part_cond part_leaf part_leaf)) hok
def gl {α:Type} (bad:α) (k_:Int→Rows→α) (a:ag) (k:Int):α:=
 bif ak true (Bs 7 a.aL k) then
  k_ ((Bg a.aL k).1) ((Bg a.aL k).2)
 else bad
def rN (a:ag) (k:Int):Bool:=gl false (fun _ _=>true) a k
def qF (a:ag) (k:Int):Int×Rows:=(gl none (fun r0 r1=>some (r0,r1)) a k).getD (0,[])
theorem OL {α:Type} (bad:α) (k_:Int→Rows→α) (a:ag) (k:Int) (hok:rN a k=true):gl bad k_ a k=k_ (qF a k).1 (qF a k).2:=by
 exact part_all (K:=fun r:Int×Rows=>k_ r.1 r.2) (part_guard (fun _=>⟨_,rfl,rfl⟩)) hok
def gm {α:Type} (bad:α) (k_:Int→α) (a:ag) (k:Int):α:=
 bif ak true (DR F9 7 a.aL k) then
  bif decide (D3 a.aL k<0) then k_ (-1)
  else k_ (D3 a.aL k)
 else bad
def rO (a:ag) (k:Int):Bool:=gm false (fun _=>true) a k
def yZ (a:ag) (k:Int):Int:=(gm none (fun r0=>some (r0)) a k).getD 0
theorem OP {α:Type} (bad:α) (k_:Int→α) (a:ag) (k:Int) (hok:rO a k=true):gm bad k_ a k=k_ (yZ a k):=by
 exact part_all (K:=fun r:Int=>k_ r) (part_guard (part_cond part_leaf part_leaf)) hok
def kj {α:Type} (bad:α) (k_:Int→Rows→α) (a:aM) (k:Int):α:=
 bif ak true (Bs 1 a.Table k) then
  k_ ((fl a.Table k).1) ((fl a.Table k).2)
 else bad
def y3 (a:aM) (k:Int):Bool:=kj false (fun _ _=>true) a k
def AR (a:aM) (k:Int):Int×Rows:=(kj none (fun r0 r1=>some (r0,r1)) a k).getD (0,[])
theorem VU {α:Type} (bad:α) (k_:Int→Rows→α) (a:aM) (k:Int) (hok:y3 a k=true):kj bad k_ a k=k_ (AR a k).1 (AR a k).2:=by
 exact part_all (K:=fun r:Int×Rows=>k_ r.1 r.2) (part_guard (fun _=>⟨_,rfl,rfl⟩)) hok
def kl {α:Type} (bad:α) (k_:Int→α) (a:aM) (k:Int):α:=
 bif ak true (DR eN 1 a.Table k) then
  bif decide (ez a.Table k<0) then k_ (-1)
  else k_ (ez a.Table k)
 else bad
def y4 (a:aM) (k:Int):Bool:=kl false (fun _=>true) a k
def HU (a:aM) (k:Int):Int:=(kl none (fun r0=>some (r0)) a k).getD 0
theorem VY {α:Type} (bad:α) (k_:Int→α) (a:aM) (k:Int) (hok:y4 a k=true):kl bad k_ a k=k_ (HU a k):=by
 exact part_all (K:=fun r:Int=>k_ r) (part_guard (part_cond part_leaf part_leaf)) hok
def iI {α:Type} (bad:α) (k_:Int→Rows→Rows→α) (a:au) (k:Int):α:=
 let z0:Int×Rows:=xe a.aG ((BM a.a_ k).1)
 bif ak true (Fv a.a_ k) then
  bif ak true (va fB F7 a.aG ((BM a.a_ k).1)) then
   k_ z0.1 ((BM a.a_ k).2) z0.2
  else bad
 else bad
def vW (a:au) (k:Int):Bool:=iI false (fun _ _ _=>true) a k
def p6 (a:au) (k:Int):Int×Rows×Rows:=(iI none (fun r0 r1 r2=>some (r0,r1,r2)) a k).getD (0,[],[])
theorem TE {α:Type} (bad:α) (k_:Int→Rows→Rows→α) (a:au) (k:Int) (hok:vW a k=true):iI bad k_ a k=k_ (p6 a k).1 (p6 a k).2.1 (p6 a k).2.2:=by
 exact part_all (K:=fun r:Int×Rows×Rows=>k_ r.1 r.2.1 r.2.2) (part_guard (part_guard (fun _=>⟨_,rfl,rfl⟩))) hok
def iJ {α:Type} (bad:α) (k_:Int→α) (a:au) (k:Int):α:=
 let z0:Int:=Lw a.aG (HS a.a_ k)
 bif ak true (Fw a.a_ k) then
  bif decide (HS a.a_ k<0) then k_ (-1)
  else bif ak true (Qp a.aG (HS a.a_ k)) then
    bif decide (z0<0) then k_ (-1)
    else k_ z0
   else bad
 else bad
def vX (a:au) (k:Int):Bool:=iJ false (fun _=>true) a k
def FB (a:au) (k:Int):Int:=(iJ none (fun r0=>some (r0)) a k).getD 0
theorem TI {α:Type} (bad:α) (k_:Int→α) (a:au) (k:Int) (hok:vX a k=true):iJ bad k_ a k=k_ (FB a k):=by
 exact part_all (K:=fun r:Int=>k_ r) (part_guard (part_cond part_leaf (part_guard (part_cond part_leaf part_leaf)))) hok
def gZ {α:Type} (bad:α) (k_:Int→Rows→Rows→Rows→α) (a:al) (k:Int):α:=
 let z0:Int×Rows:=qF a.Table ((xo a.bW k).1)
 let z1:Int×Rows:=AR a.bj z0.1
 bif ak true (Bs 9 a.bW k) then
  bif ak true (rN a.Table ((xo a.bW k).1)) then
   bif ak true (y3 a.bj z0.1) then
    k_ z1.1 ((xo a.bW k).2) z0.2 z1.2
   else bad
  else bad
 else bad
def uf (a:al) (k:Int):Bool:=gZ false (fun _ _ _ _=>true) a k
def gA (a:al) (k:Int):Int×Rows×Rows×Rows:=(gZ none (fun r0 r1 r2 r3=>some (r0,r1,r2,r3)) a k).getD (0,[],[],[])
theorem Ri {α:Type} (bad:α) (k_:Int→Rows→Rows→Rows→α) (a:al) (k:Int) (hok:uf a k=true):gZ bad k_ a k=k_ (gA a k).1 (gA a k).2.1 (gA a k).2.2.1 (gA a k).2.2.2:=by
 exact part_all (K:=fun r:Int×Rows×Rows×Rows=>k_ r.1 r.2.1 r.2.2.1 r.2.2.2) (part_guard (part_guard (part_guard (fun _=>⟨_,rfl,rfl⟩)))) hok
def g_ {α:Type} (bad:α) (k_:Int→α) (a:al) (k:Int):α:=
 let z0:Int:=yZ a.Table (Be a.bW k)
 let z1:Int:=HU a.bj z0
 bif ak true (DR F8 9 a.bW k) then
  bif decide (Be a.bW k<0) then k_ (-1)
  else bif ak true (rO a.Table (Be a.bW k)) then
    bif decide (z0<0) then k_ (-1)
    else bif ak true (y4 a.bj z0) then
      bif decide (z1<0) then k_ (-1)
      else k_ z1
     else bad
   else bad
 else bad
def ug (a:al) (k:Int):Bool:=g_ false (fun _=>true) a k
def BR (a:al) (k:Int):Int:=(g_ none (fun r0=>some (r0)) a k).getD 0
theorem Rm {α:Type} (bad:α) (k_:Int→α) (a:al) (k:Int) (hok:ug a k=true):g_ bad k_ a k=k_ (BR a k):=by
 exact part_all (K:=fun r:Int=>k_ r) (part_guard (part_cond part_leaf (part_guard (part_cond part_leaf (part_guard (part_cond part_leaf part_leaf)))))) hok
def oK {α:Type} (bad:α) (k_:Int→Rows→Rows→Rows→Rows→Rows→Rows→Rows→Rows→Rows→Rows→Rows→Rows→Rows→Rows→Rows→Rows→α) (a:aB) (k:Int):α:=
 let z0:Int×Rows:=tf a.Maps ((tw a.bV k).1)
 let z1:Int×Rows×Rows:=p6 a.Tx z0.1
 let z2:Int:=z1.1
 let z3:Int×Rows:=te a.Rx z2
 let z4:Int:=z3.1
 let z5:Int×Rows:=wW a.bN z4
 let z6:Int:=z5.1
 let z7:Int×Rows:=vL a.aY z6
 let z8:Int:=z7.1
 let z9:Int×Rows:=En a.cj z8
 let z10:Int:=z9.1
 let Xx:Int×Rows:=AQ a.Filter z10
 let z12:Int:=Xx.1
 let z13:Int×Rows×Rows×Rows:=gA a.aj z12
 let z14:Int:=z13.1
 let z15:Int×Rows:=vK a.cO z14
 let z16:Int:=z15.1
 let z17:Int×Rows:=lY a.ic z16
 let z18:Int:=z17.1
 let z19:Int×Rows:=fl a.bK z18
 let z20:Int:=z19.1
 let z21:Int×Rows:=fl a.b_ z20
 bif ak true (yV a.bV k) then
  bif ak true (Bs 4 a.Maps ((tw a.bV k).1)) then
   bif ak true (vW a.Tx z0.1) then
    bif ak true (Bs 30 a.Rx z2) then
     bif ak true (va fA F6 a.bN z4) then
      bif ak true (Bs 6 a.aY z6) then
       bif ak true (Bs 1 a.cj z8) then
        bif ak true (yX a.Filter z10) then
         bif ak true (uf a.aj z12) then
          bif ak true (Bs 8 a.cO z14) then
           bif ak true (Bs 1 a.ic z16) then
            bif ak true (Bs 1 a.bK z18) then
             bif ak true (Bs 1 a.b_ z20) then
              k_ z21.1 ((tw a.bV k).2) z0.2 z1.2.1 z1.2.2 z3.2 z5.2 z7.2 z9.2 Xx.2 z13.2.1 z13.2.2.1 z13.2.2.2 z15.2 z17.2 z19.2 z21.2
             else bad
            else bad
           else bad
          else bad
         else bad
        else bad
       else bad
      else bad
     else bad
    else bad
   else bad
  else bad
 else bad
def vY (a:aB) (k:Int):Bool:=oK false (fun _ _ _ _ _ _ _ _ _ _ _ _ _ _ _ _ _=>true) a k
def cd (a:aB) (k:Int):Int×Rows×Rows×Rows×Rows×Rows×Rows×Rows×Rows×Rows×Rows×Rows×Rows×Rows×Rows×Rows×Rows:=(oK none (fun r0 r1 r2 r3 r4 r5 r6 r7 r8 r9 r10 r11 r12 r13 r14 r15 r16=>some (r0,r1,r2,r3,r4,r5,r6,r7,r8,r9,r10,r11,r12,r13,r14,r15,r16)) a k).getD (0,[],[],[],[],[],[],[],[],[],[],[],[],[],[],[],[])
theorem acH {α:Type} (bad:α) (k_:Int→Rows→Rows→Rows→Rows→Rows→Rows→Rows→Rows→Rows→Rows→Rows→Rows→Rows→Rows→Rows→Rows→α) (a:aB) (k:Int) (hok:vY a k=true):oK bad k_ a k=k_ (cd a k).1 (cd a k).2.1 (cd a k).2.2.1 (cd a k).2.2.2.1 (cd a k).2.2.2.2.1 (cd a k).2.2.2.2.2.1 (cd a k).2.2.2.2.2.2.1 (cd a k).2.2.2.2.2.2.2.1 (cd a k).2.2.2.2.2.2.2.2.1 (cd a k).2.2.2.2.2.2.2.2.2.1 (cd a k).2.2.2.2.2.2.2.2.2.2.1 (cd a k).2.2.2.2.2.2.2.2.2.2.2.1 (cd a k).2.2.2.2.2.2.2.2.2.2.2.2.1 (cd a k).2.2.2.2.2.2.2.2.2.2.2.2.2.1 (cd a k).2.2.2.2.2.2.2.2.2.2.2.2.2.2.1 (cd a k).2.2.2.2.2.2.2.2.2.2.2.2.2.2.2.1 (cd a k).2.2.2.2.2.2.2.2.2.2.2.2.2.2.2.2:=by
 exact part_all (K:=fun r:Int×Rows×Rows×Rows×Rows×Rows×Rows×Rows×Rows×Rows×Rows×Rows×Rows×Rows×Rows×Rows×Rows=>k_ r.1 r.2.1 r.2.2.1 r.2.2.2.1 r.2.2.2.2.1 r.2.2.2.2.2.1 r.2.2.2.2.2.2.1 r.2.2.2.2.2.2.2.1 r.2.2.2.2.2.2.2.2.1 r.2.2.2.2.2.2.2.2.2.1 r.2.2.2.2.2.2.2.2.2.2.1 r.2.2.2.2.2.2.2.2.2.2.2.1 r.2.2.2.2.2.2.2.2.2.2.2.2.1 r.2.2.2.2.2.2.2.2.2.2.2.2.2.1 r.2.2.2.2.2.2.2.2.2.2.2.2.2.2.1 r.2.2.2.2.2.2.2.2.2.2.2.2.2.2.2.1 r.2.2.2.2.2.2.2.2.2.2.2.2.2.2.2.2) (part_guard (part_guard (part_guard (part_guard (part_guard (part_guard (part_guard (part_guard (part_guard (part_guard (part_guard (part_guard (part_guard (fun _=>⟨_,rfl,rfl⟩)))))))))))))) hok
def oL {α:Type} (bad:α) (k_:Int→α) (a:aB) (k:Int):α:=
 let z0:Int:=xy a.Maps (AP a.bV k)
 let z1:Int:=FB a.Tx z0
 let z2:Int:=xn a.Rx z1
 let z3:Int:=Lv a.bN z2
 let z4:Int:=Bf a.aY z3
 let z5:Int:=HG a.cj z4
 let z6:Int:=HT a.Filter z5
 let z7:Int:=BR a.aj z6
 let z8:Int:=Bd a.cO z7
 let z9:Int:=lZ a.ic z8
 let z10:Int:=ez a.bK z9
 let Xx:Int:=ez a.b_ z10
 bif ak true (yW a.bV k) then
  bif decide (AP a.bV k<0) then k_ (-1)
  else bif ak true (DR oD 4 a.Maps (AP a.bV k)) then
    bif decide (z0<0) then k_ (-1)
    else bif ak true (vX a.Tx z0) then
      bif decide (z1<0) then k_ (-1)
      else bif ak true (DR oC 30 a.Rx z1) then
        bif decide (z2<0) then k_ (-1)
        else bif ak true (Qo a.bN z2) then
          bif decide (z3<0) then k_ (-1)
          else bif ak true (DR t5 6 a.aY z3) then
            bif decide (z4<0) then k_ (-1)
            else bif ak true (DR Dc 1 a.cj z4) then
              bif decide (z5<0) then k_ (-1)
              else bif ak true (yY a.Filter z5) then
                bif decide (z6<0) then k_ (-1)
                else bif ak true (ug a.aj z6) then
                  bif decide (z7<0) then k_ (-1)
                  else bif ak true (DR t3 8 a.cO z7) then
                    bif decide (z8<0) then k_ (-1)
                    else bif ak true (DR gw 1 a.ic z8) then
                      bif decide (z9<0) then k_ (-1)
                      else bif ak true (DR eN 1 a.bK z9) then
                        bif decide (z10<0) then k_ (-1)
                        else bif ak true (DR eN 1 a.b_ z10) then
                          bif decide (Xx<0) then k_ (-1)
                          else k_ Xx
                         else bad
                       else bad
                     else bad
                   else bad
                 else bad
               else bad
             else bad
           else bad
         else bad
       else bad
     else bad
   else bad
 else bad
def Bh (a:aB) (k:Int):Bool:=oL false (fun _=>true) a k
def Lx (a:aB) (k:Int):Int:=(oL none (fun r0=>some (r0)) a k).getD 0
theorem acL {α:Type} (bad:α) (k_:Int→α) (a:aB) (k:Int) (hok:Bh a k=true):oL bad k_ a k=k_ (Lx a k):=by
 exact part_all (K:=fun r:Int=>k_ r) (part_guard (part_cond part_leaf (part_guard (part_cond part_leaf (part_guard (part_cond part_leaf (part_guard (part_cond part_leaf (part_guard (part_cond part_leaf (part_guard (part_cond part_leaf (part_guard (part_cond part_leaf (part_guard (part_cond part_leaf (part_guard (part_cond part_leaf (part_guard (part_cond part_leaf (part_guard (part_cond part_leaf (part_guard (part_cond part_leaf (part_guard (part_cond part_leaf part_leaf)))))))))))))))))))))))))) hok
theorem ar6 (x k:Bool):((bif x then k else false)=true)=(x=true∧k=true):=by cases x<;>simp
def tx (a:aB):Bool:=sm a.bV.dm && (sm a.Maps && (sm a.Tx.a_.dn && (BZ a.Tx.aG && (sm a.Rx && (MR a.bN && (sm a.aY && (sm a.cj && (sm a.Filter.cW && (sm a.aj.bW && (sm a.aj.Table.aL && (sm a.aj.bj.Table && (sm a.cO && (sm a.ic && (sm a.bK && (sm a.b_)))))))))))))))
theorem apq {a:aB} (h:gH a=true):tx a=true:=by
 simp only[gH,zk,mJ,uE,kK,sr,fF,uU,mK,uJ,iT,qm,hD,nM,mH,uB,ah,Kk,ar6,Bool.and_eq_true,and_true,true_and,ik,lr,jE,zg,List.all_eq_true] at h
 simp only[tx,BZ,MR,Bool.and_eq_true,List.all_eq_true]
 obtain⟨h0,h1,⟨h2,h3,h4⟩,h5,⟨h6,h7⟩,h8,h9,h10,⟨h11,h12,h13⟩,h14,h15,h16,h17⟩:=h
 exact⟨h0,h1,h2,⟨h3,h4⟩,h5,⟨h6,h7⟩,h8,h9,h10,h11,h12,h13,h14,h15,h16,h17⟩
theorem aoS {a:aB} (h:tx a=true):∃(K:Int) (P0 P1 P2 P3 P4 P5 P6 P7 P8 P9 P10 P11 P12 P13 P14 P15:Rows),vY a 1=true∧cd a 1=(K,P0,P1,P2,P3,P4,P5,P6,P7,P8,P9,P10,P11,P12,P13,P14,P15)∧0≤K∧Bh (⟨⟨P0⟩,P1,⟨a.Tx.Ring,⟨a.Tx.a_.cP,a.Tx.a_.bB,a.Tx.a_.Count,P2⟩,P3,a.Tx.Next⟩,P4,P5,P6,P7,⟨a.Filter.G3,a.Filter.bA,P8⟩,⟨P9,⟨P10⟩,⟨a.aj.bj.Key,P11⟩⟩,P12,a.dp,P13,P14,P15,a.Counters⟩:aB) 1=true∧Lx (⟨⟨P0⟩,P1,⟨a.Tx.Ring,⟨a.Tx.a_.cP,a.Tx.a_.bB,a.Tx.a_.Count,P2⟩,P3,a.Tx.Next⟩,P4,P5,P6,P7,⟨a.Filter.G3,a.Filter.bA,P8⟩,⟨P9,⟨P10⟩,⟨a.aj.bj.Key,P11⟩⟩,P12,a.dp,P13,P14,P15,a.Counters⟩:aB) 1=K:=by
 simp only[tx,Bool.and_eq_true] at h
 obtain⟨s0,s1,s2,s3,s4,s5,s6,s7,s8,s9,s10,s11,s12,s13,s14,s15⟩:=h
 have l0:=qU s0
 obtain⟨K0,hK0⟩:∃K:Int,K=1+1*(a.bV.dm.length:Int):=⟨_,rfl⟩
 have o0:Bs 1 a.bV.dm 1=true:=wP s0 (by omega) (by omega)
 have e0:lY a.bV.dm 1=(K0,(oh gw 1 a.bV.dm.length 1)):=by rw[hK0];rfl
 have q0:DR gw 1 (oh gw 1 a.bV.dm.length 1) 1=true:=Ds s0 (by omega) (by omega)
 have g0:lZ (oh gw 1 a.bV.dm.length 1) 1=K0:=by rw[hK0];simp only[lZ,dH]
 have b0:0≤K0∧K0≤16777217:=by omega
 have z0:¬K0<0:=by omega
 clear hK0
 have l1:=qU s1
 obtain⟨K1,hK1⟩:∃K:Int,K=K0+4*(a.Maps.length:Int):=⟨_,rfl⟩
 have o1:Bs 4 a.Maps K0=true:=wP s1 (by omega) (by omega)
 have e1:tf a.Maps K0=(K1,(oh oD 4 a.Maps.length K0)):=by rw[hK1];rfl
 have q1:DR oD 4 (oh oD 4 a.Maps.length K0) K0=true:=Ds s1 (by omega) (by omega)
 have g1:xy (oh oD 4 a.Maps.length K0) K0=K1:=by rw[hK1];simp only[xy,dH]
 have b1:0≤K1∧K1≤83886081:=by omega
 have z1:¬K1<0:=by omega
 clear hK1
 have l2:=qU s2
 obtain⟨K2,hK2⟩:∃K:Int,K=K1+1*(a.Tx.a_.dn.length:Int):=⟨_,rfl⟩
 have o2:Bs 1 a.Tx.a_.dn K1=true:=wP s2 (by omega) (by omega)
 have e2:fl a.Tx.a_.dn K1=(K2,(oh eN 1 a.Tx.a_.dn.length K1)):=by rw[hK2];rfl
 have q2:DR eN 1 (oh eN 1 a.Tx.a_.dn.length K1) K1=true:=Ds s2 (by omega) (by omega)
 have g2:ez (oh eN 1 a.Tx.a_.dn.length K1) K1=K2:=by rw[hK2];simp only[ez,dH]
 have b2:0≤K2∧K2≤100663297:=by omega
 have z2:¬K2<0:=by omega
 clear hK2
 obtain⟨o3,q3,g3,u3,v3⟩:=apN s3 (k:=K2) (by omega) (by omega)
 obtain⟨K3,hK3⟩:∃K:Int,K=(FH fB a.Tx.aG K2).2:=⟨_,rfl⟩
 have e3:xe a.Tx.aG K2=(K3,(FH fB a.Tx.aG K2).1):=by rw[hK3];rfl
 have g3:Lw (FH fB a.Tx.aG K2).1 K2=K3:=by rw[hK3];exact g3
 rw[←hK3] at u3 v3
 have b3:0≤K3∧K3≤281475211591681:=by omega
 have z3:¬K3<0:=by omega
 clear hK3
 have l4:=qU s4
 obtain⟨K4,hK4⟩:∃K:Int,K=K3+30*(a.Rx.length:Int):=⟨_,rfl⟩
 have o4:Bs 30 a.Rx K3=true:=wP s4 (by omega) (by omega)
 have e4:te a.Rx K3=(K4,(oh oC 30 a.Rx.length K3)):=by rw[hK4];rfl
 have q4:DR oC 30 (oh oC 30 a.Rx.length K3) K3=true:=Ds s4 (by omega) (by omega)
 have g4:xn (oh oC 30 a.Rx.length K3) K3=K4:=by rw[hK4];simp only[xn,dH]
 have b4:0≤K4∧K4≤281475714908161:=by omega
 have z4:¬K4<0:=by omega
 clear hK4
 obtain⟨o5,q5,g5,u5,v5⟩:=apM s5 (k:=K4) (by omega) (by omega)
 obtain⟨K5,hK5⟩:∃K:Int,K=(FH fA a.bN K4).2:=⟨_,rfl⟩
 have e5:wW a.bN K4=(K5,(FH fA a.bN K4).1):=by rw[hK5];rfl
 have g5:Lv (FH fA a.bN K4).1 K4=K5:=by rw[hK5];exact g5
 rw[←hK5] at u5 v5
 have b5:0≤K5∧K5≤562950825836545:=by omega
 have z5:¬K5<0:=by omega
 clear hK5
 have l6:=qU s6
 obtain⟨K6,hK6⟩:∃K:Int,K=K5+6*(a.aY.length:Int):=⟨_,rfl⟩
 have o6:Bs 6 a.aY K5=true:=wP s6 (by omega) (by omega)
 have e6:vL a.aY K5=(K6,(oh t5 6 a.aY.length K5)):=by rw[hK6];rfl
 have q6:DR t5 6 (oh t5 6 a.aY.length K5) K5=true:=Ds s6 (by omega) (by omega)
 have g6:Bf (oh t5 6 a.aY.length K5) K5=K6:=by rw[hK6];simp only[Bf,dH]
 have b6:0≤K6∧K6≤562950926499841:=by omega
 have z6:¬K6<0:=by omega
 clear hK6
 have l7:=qU s7
 obtain⟨K7,hK7⟩:∃K:Int,K=K6+1*(a.cj.length:Int):=⟨_,rfl⟩
 have o7:Bs 1 a.cj K6=true:=wP s7 (by omega) (by omega)
 have e7:En a.cj K6=(K7,(oh Dc 1 a.cj.length K6)):=by rw[hK7];rfl
 have q7:DR Dc 1 (oh Dc 1 a.cj.length K6) K6=true:=Ds s7 (by omega) (by omega)
 have g7:HG (oh Dc 1 a.cj.length K6) K6=K7:=by rw[hK7];simp only[HG,dH]
 have b7:0≤K7∧K7≤562950943277057:=by omega
 have z7:¬K7<0:=by omega
 clear hK7
 have l8:=qU s8
 obtain⟨K8,hK8⟩:∃K:Int,K=K7+1*(a.Filter.cW.length:Int):=⟨_,rfl⟩
 have o8:Bs 1 a.Filter.cW K7=true:=wP s8 (by omega) (by omega)
 have e8:fl a.Filter.cW K7=(K8,(oh eN 1 a.Filter.cW.length K7)):=by rw[hK8];rfl
 have q8:DR eN 1 (oh eN 1 a.Filter.cW.length K7) K7=true:=Ds s8 (by omega) (by omega)
 have g8:ez (oh eN 1 a.Filter.cW.length K7) K7=K8:=by rw[hK8];simp only[ez,dH]
 have b8:0≤K8∧K8≤562950960054273:=by omega
 have z8:¬K8<0:=by omega
 clear hK8
 have l9:=qU s9
 obtain⟨K9,hK9⟩:∃K:Int,K=K8+9*(a.aj.bW.length:Int):=⟨_,rfl⟩
 have o9:Bs 9 a.aj.bW K8=true:=wP s9 (by omega) (by omega)
 have e9:xo a.aj.bW K8=(K9,(oh F8 9 a.aj.bW.length K8)):=by rw[hK9];rfl
 have q9:DR F8 9 (oh F8 9 a.aj.bW.length K8) K8=true:=Ds s9 (by omega) (by omega)
 have g9:Be (oh F8 9 a.aj.bW.length K8) K8=K9:=by rw[hK9];simp only[Be,dH]
 have b9:0≤K9∧K9≤562951111049217:=by omega
 have z9:¬K9<0:=by omega
 clear hK9
 have l10:=qU s10
 obtain⟨K10,ar7⟩:∃K:Int,K=K9+7*(a.aj.Table.aL.length:Int):=⟨_,rfl⟩
 have o10:Bs 7 a.aj.Table.aL K9=true:=wP s10 (by omega) (by omega)
 have e10:Bg a.aj.Table.aL K9=(K10,(oh F9 7 a.aj.Table.aL.length K9)):=by rw[ar7];rfl
 have q10:DR F9 7 (oh F9 7 a.aj.Table.aL.length K9) K9=true:=Ds s10 (by omega) (by omega)
 have g10:D3 (oh F9 7 a.aj.Table.aL.length K9) K9=K10:=by rw[ar7];simp only[D3,dH]
 have b10:0≤K10∧K10≤562951228489729:=by omega
 have z10:¬K10<0:=by omega
 clear ar7
 have l11:=qU s11
 obtain⟨K11,ar8⟩:∃K:Int,K=K10+1*(a.aj.bj.Table.length:Int):=⟨_,rfl⟩
 have o11:Bs 1 a.aj.bj.Table K10=true:=wP s11 (by omega) (by omega)
 have e11:fl a.aj.bj.Table K10=(K11,(oh eN 1 a.aj.bj.Table.length K10)):=by rw[ar8];rfl
 have q11:DR eN 1 (oh eN 1 a.aj.bj.Table.length K10) K10=true:=Ds s11 (by omega) (by omega)
 have g11:ez (oh eN 1 a.aj.bj.Table.length K10) K10=K11:=by rw[ar8];simp only[ez,dH]
 have b11:0≤K11∧K11≤562951245266945:=by omega
 have Xx:¬K11<0:=by omega
 clear ar8
 have l12:=qU s12
 obtain⟨K12,ar9⟩:∃K:Int,K=K11+8*(a.cO.length:Int):=⟨_,rfl⟩
 have o12:Bs 8 a.cO K11=true:=wP s12 (by omega) (by omega)
 have e12:vK a.cO K11=(K12,(oh t3 8 a.cO.length K11)):=by rw[ar9];rfl
 have q12:DR t3 8 (oh t3 8 a.cO.length K11) K11=true:=Ds s12 (by omega) (by omega)
 have g12:Bd (oh t3 8 a.cO.length K11) K11=K12:=by rw[ar9];simp only[Bd,dH]
 have b12:0≤K12∧K12≤562951379484673:=by omega
 have z12:¬K12<0:=by omega
 clear ar9
 have l13:=qU s13
 obtain⟨K13,ar_⟩:∃K:Int,K=K12+1*(a.ic.length:Int):=⟨_,rfl⟩
 have o13:Bs 1 a.ic K12=true:=wP s13 (by omega) (by omega)
 have e13:lY a.ic K12=(K13,(oh gw 1 a.ic.length K12)):=by rw[ar_];rfl
 have q13:DR gw 1 (oh gw 1 a.ic.length K12) K12=true:=Ds s13 (by omega) (by omega)
 have g13:lZ (oh gw 1 a.ic.length K12) K12=K13:=by rw[ar_];simp only[lZ,dH]
 have b13:0≤K13∧K13≤562951396261889:=by omega
 have z13:¬K13<0:=by omega
 clear ar_
 have l14:=qU s14
 obtain⟨K14,asa⟩:∃K:Int,K=K13+1*(a.bK.length:Int):=⟨_,rfl⟩
 have o14:Bs 1 a.bK K13=true:=wP s14 (by omega) (by omega)
 have e14:fl a.bK K13=(K14,(oh eN 1 a.bK.length K13)):=by rw[asa];rfl
 have q14:DR eN 1 (oh eN 1 a.bK.length K13) K13=true:=Ds s14 (by omega) (by omega)
 have g14:ez (oh eN 1 a.bK.length K13) K13=K14:=by rw[asa];simp only[ez,dH]
 have b14:0≤K14∧K14≤562951413039105:=by omega
 have z14:¬K14<0:=by omega
 clear asa
 have l15:=qU s15
 obtain⟨K15,asb⟩:∃K:Int,K=K14+1*(a.b_.length:Int):=⟨_,rfl⟩
 have o15:Bs 1 a.b_ K14=true:=wP s15 (by omega) (by omega)
 have e15:fl a.b_ K14=(K15,(oh eN 1 a.b_.length K14)):=by rw[asb];rfl
 have q15:DR eN 1 (oh eN 1 a.b_.length K14) K14=true:=Ds s15 (by omega) (by omega)
 have g15:ez (oh eN 1 a.b_.length K14) K14=K15:=by rw[asb];simp only[ez,dH]
 have b15:0≤K15∧K15≤562951429816321:=by omega
 have z15:¬K15<0:=by omega
 clear asb
 refine⟨K15,(oh gw 1 a.bV.dm.length 1),(oh oD 4 a.Maps.length K0),(oh eN 1 a.Tx.a_.dn.length K1),(FH fB a.Tx.aG K2).1,(oh oC 30 a.Rx.length K3),(FH fA a.bN K4).1,(oh t5 6 a.aY.length K5),(oh Dc 1 a.cj.length K6),(oh eN 1 a.Filter.cW.length K7),(oh F8 9 a.aj.bW.length K8),(oh F9 7 a.aj.Table.aL.length K9),(oh eN 1 a.aj.bj.Table.length K10),(oh t3 8 a.cO.length K11),(oh gw 1 a.ic.length K12),(oh eN 1 a.bK.length K13),(oh eN 1 a.b_.length K14), ?_, ?_,by omega, ?_, ?_⟩
 ·simp only[yV,tw,kf,Fv,BM,oI,yX,AQ,kh,rN,qF,gl,y3,AR,kj,vW,p6,iI,uf,gA,gZ,vY,cd,oK,Option.getD_some,e0,e1,e2,e3,e4,e5,e6,e7,e8,e9,e10,e11,e12,e13,e14,e15,o0,o1,o2,o3,o4,o5,o6,o7,o8,o9,o10,o11,o12,o13,o14,o15,ah,ao,cond_true]
 ·simp only[yV,tw,kf,Fv,BM,oI,yX,AQ,kh,rN,qF,gl,y3,AR,kj,vW,p6,iI,uf,gA,gZ,vY,cd,oK,e0,e1,e2,e3,e4,e5,e6,e7,e8,e9,e10,e11,e12,e13,e14,e15,o0,o1,o2,o3,o4,o5,o6,o7,o8,o9,o10,o11,o12,o13,o14,o15,ah,ao,cond_true,Option.getD_some]
 ·simp only[yW,AP,kg,Fw,HS,oJ,yY,HT,ki,rO,yZ,gm,y4,HU,kl,vX,FB,iJ,ug,BR,g_,Bh,Lx,oL,Option.getD_some,g0,g1,g2,g3,g4,g5,g6,g7,g8,g9,g10,g11,g12,g13,g14,g15,q0,q1,q2,q3,q4,q5,q6,q7,q8,q9,q10,q11,q12,q13,q14,q15,z0,z1,z2,z3,z4,z5,z6,z7,z8,z9,z10,Xx,z12,z13,z14,z15,decide_false,cond_false,ah,ao,cond_true]
 ·simp only[yW,AP,kg,Fw,HS,oJ,yY,HT,ki,rO,yZ,gm,y4,HU,kl,vX,FB,iJ,ug,BR,g_,Bh,Lx,oL,g0,g1,g2,g3,g4,g5,g6,g7,g8,g9,g10,g11,g12,g13,g14,g15,q0,q1,q2,q3,q4,q5,q6,q7,q8,q9,q10,q11,q12,q13,q14,q15,z0,z1,z2,z3,z4,z5,z6,z7,z8,z9,z10,Xx,z12,z13,z14,z15,decide_false,cond_false,ah,ao,cond_true,Option.getD_some]
theorem foldl_push (q:List DC→List DC):∀(l o:Rows),l.foldl (fun o r=>o++[q r]) o=o++l.map q
 | [],o=>by simp
 | r::l,o=>by rw[List.foldl_cons,foldl_push q l,List.map_cons,List.append_assoc];rfl
end
end Go.Proofs.YthpmalpdnnbkgaaGreat.Pl
