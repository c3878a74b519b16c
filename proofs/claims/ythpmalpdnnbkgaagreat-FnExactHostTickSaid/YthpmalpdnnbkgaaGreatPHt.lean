/- What functions of the program compute, in plain Lean, as the value machine runs them. Conditions: none. -/
import Derived.Test.YthpmalpdnnbkgaaGreatPHm
import Derived.Test.YthpmalpdnnbkgaaGreatPHl
import Derived.Test.YthpmalpdnnbkgaaGreatPMo
set_option linter.unusedVariables false
set_option linter.unusedSimpArgs false
set_option maxRecDepth 100000
namespace Go.Proofs.YthpmalpdnnbkgaaGreat.Pl
open Vm
noncomputable section
def H0 {α:Type} (bad:α) (k_:aK→α) (m:aK):α:=
 bif ak true (room2 16 [] m.dm) then
  k_ m
 else bad
theorem agf {α:Type} (bad:α) (k_:aK→α) (m:aK) (h_m:WtL aK.ct m.enc) (hok:V1 m=true):H0 bad k_ m=k_ (ca m):=by
 have om:V1 m=true:=hok
 unfold H0
 rw[d3 (show sm m.dm=true from om) (show 16≤8388608 by omega)]
 rfl
def H3 {α:Type} (bad:α) (k_:aI→α) (f:aI):α:=
 bif ak true (room2 8 [] f.cW) then
  k_ f
 else bad
def RP (f:aI):Bool:=sm f.cW
theorem agk {α:Type} (bad:α) (k_:aI→α) (f:aI) (Nb:WtL aI.ct f.enc) (hok:RP f=true):H3 bad k_ f=k_ (ca f):=by
 have om:RP f=true:=hok
 unfold H3
 rw[d3 (show sm f.cW=true from om) (show 8≤8388608 by omega)]
 rfl
def BV {α:Type} (bad:α) (k_:aI→α) (f:aI):α:=
 bif ak true (sm f.cW) then
  k_ (⟨f.G3,f.bA,ca f.cW⟩:aI)
 else bad
theorem V5 {α:Type} (bad:α) (k_:aI→α) (f:aI) (Nb:WtL aI.ct f.enc) (hok:RP f=true):BV bad k_ f=k_ (ca f):=by
 have om:RP f=true:=hok
 unfold BV
 rw[show sm f.cW=true from om]
 rfl
def H5 {α:Type} (bad:α) (k_:ag→α) (t:ag):α:=
 bif ak true (room2 56 [] t.aL) then
  k_ t
 else bad
def RQ (t:ag):Bool:=sm t.aL
theorem ago {α:Type} (bad:α) (k_:ag→α) (t:ag) (h_t:WtL ag.ct t.enc) (hok:RQ t=true):H5 bad k_ t=k_ (ca t):=by
 have om:RQ t=true:=hok
 unfold H5
 rw[d3 (show sm t.aL=true from om) (show 56≤8388608 by omega)]
 rfl
def D7 {α:Type} (bad:α) (k_:ag→α) (t:ag):α:=
 bif ak true (room2 56 [] t.aL) then
  k_ t
 else bad
theorem Y6 {α:Type} (bad:α) (k_:ag→α) (t:ag) (h_t:WtL ag.ct t.enc) (hok:RQ t=true):D7 bad k_ t=k_ (ca t):=by
 have om:RQ t=true:=hok
 unfold D7
 rw[d3 (show sm t.aL=true from om) (show 56≤8388608 by omega)]
 rfl
def BX {α:Type} (bad:α) (k_:aM→α) (s:aM):α:=
 bif ak true (sm s.Table) then
  k_ (⟨s.Key,ca s.Table⟩:aM)
 else bad
def amL (s:aM):Bool:=sm s.Table
theorem V9 {α:Type} (bad:α) (k_:aM→α) (s:aM) (h_s:WtL aM.ct s.enc) (hok:amL s=true):BX bad k_ s=k_ (ca s):=by
 have om:amL s=true:=hok
 unfold BX
 rw[show sm s.Table=true from om]
 rfl
def H7 {α:Type} (bad:α) (k_:al→α) (s:al):α:=
 bif ak (ak (ak true (room2 72 [] s.bW)) (RQ s.Table)) (room2 8 [] s.bj.Table) then
  k_ (⟨s.bW,ca s.Table,s.bj⟩:al)
 else bad
def JL (s:al):Bool:=sm s.bW && (sm s.Table.aL && sm s.bj.Table)
theorem ags {α:Type} (bad:α) (k_:al→α) (s:al) (h_s:WtL al.ct s.enc) (hok:JL s=true):H7 bad k_ s=k_ (ca s):=by
 have om:JL s=true:=hok
 unfold H7
 simp only[JL,Bool.and_eq_true] at om
 obtain⟨h1,h2,h3⟩:=om
 rw[d3 h1 (show 72≤8388608 by omega),d3 h3 (show 8≤8388608 by omega),show RQ s.Table=true from h2]
 rfl
def yQ {α:Type} (bad:α) (k_:al→α) (s:al):α:=
 bif ak (ak (ak true (room2 72 [] s.bW)) (RQ s.Table)) (amL s.bj) then
  k_ (⟨s.bW,ca s.Table,ca s.bj⟩:al)
 else bad
theorem Rr {α:Type} (bad:α) (k_:al→α) (s:al) (h_s:WtL al.ct s.enc) (hok:JL s=true):yQ bad k_ s=k_ (ca s):=by
 have om:JL s=true:=hok
 unfold yQ
 simp only[JL,Bool.and_eq_true] at om
 obtain⟨h1,h2,h3⟩:=om
 rw[d3 h1 (show 72≤8388608 by omega),show RQ s.Table=true from h2,show amL s.bj=true from h3]
 rfl
def yS {α:Type} (bad:α) (k_:Rows→α) (af:Rows):α:=
 bif ak true (room2 32 [] af) then
  k_ af
 else bad
theorem Rv {α:Type} (bad:α) (k_:Rows→α) (af:Rows) (dZ:WtC (.sl [.int .i64,.int .i64,.int .i64,.bool]) (.sl af)) (hok:sm af=true):yS bad k_ af=k_ (ca af):=by
 have om:sm af=true:=hok
 unfold yS
 rw[d3 (show sm af=true from om) (show 32≤8388608 by omega)]
 rfl
def AY {α:Type} (bad:α) (k_:Rows→α) (af:Rows):α:=
 bif ak true (room2 72 [] af) then
  k_ af
 else bad
theorem TM {α:Type} (bad:α) (k_:Rows→α) (af:Rows) (dZ:WtC (.sl [.int .i64,.int .i64,.int .i64,.int .i64,.int .i64,.int .i64,.str,.bool]) (.sl af)) (hok:sm af=true):AY bad k_ af=k_ (ca af):=by
 have om:sm af=true:=hok
 unfold AY
 rw[d3 (show sm af=true from om) (show 72≤8388608 by omega)]
 rfl
def rX {α:Type} (bad:α) (k_:Rows→α) (af:Rows) (bl:Int) (bZ:Int→Rows→α) (bz:Int) (az:Rows):α:=
 bif decide (bz<bl) then
  bif ak true (idx bz af) then
   bif ak (ak true (sm (rR (nth af (Int.toNat bz)) 2))) (room2 40 az ([[.int (rI (nth af (Int.toNat bz)) 0),.int (rI (nth af (Int.toNat bz)) 1),.sl (ca (rR (nth af (Int.toNat bz)) 2))]])) then
    bZ (w64 (bz+1)) (az++([[.int (rI (nth af (Int.toNat bz)) 0),.int (rI (nth af (Int.toNat bz)) 1),.sl (ca (rR (nth af (Int.toNat bz)) 2))]]))
   else bad
  else bad
 else k_ az
def gn {α:Type} (bad:α) (k_:Rows→α) (N:Nat) (af:Rows) (bl:Int) (m_:Nat):Int→Rows→α:=
 Nat.rec (motive:=fun _=>Int→Rows→α) (fun _ _=>bad) (fun _ bZ=>rX bad k_ af bl bZ) m_
theorem IZ {α:Type} (bad:α) (k_:Rows→α) (N:Nat) (af:Rows) (bl:Int) (m_:Nat) (bz:Int) (az:Rows):gn bad k_ N af bl (m_+1) bz az=rX bad k_ af bl (gn bad k_ N af bl m_) bz az:=rfl
def zW {α:Type} (bad:α) (k_:Rows→α) (l0:Int→Int→Rows→α) (af:Rows):α:=
 l0 (len af) 0 []
def zV {α:Type} (bad:α) (k_:Rows→α) (N:Nat) (af:Rows):α:=zW bad k_ (fun bl=>gn bad k_ N af bl N) af
theorem acR {α:Type} (bad:α) (k_:Rows→α) (af:Rows) (dZ:WtC (.sl [.int .i64,.int .i64,.sl [.int .i64]]) (.sl af)) (hok:BZ af=true):∃N,zV bad k_ N af=k_ (ca af):=by
 obtain⟨hl,hw⟩:=cU dZ
 have om:=hok
 simp only[BZ,Bool.and_eq_true,List.all_eq_true] at om
 obtain⟨s1,s2⟩:=om
 have l1:=qU s1
 refine⟨af.length+1, ?_⟩
 unfold zV zW
 refine (IJ af.length (fun n i o=>gn bad k_ (af.length+1) af (len af) n i o) (fun i o=>o++[nth af i]) k_ (fun i o=>o.length≤i) ?_ ?_ ?_ (af.length+1) [] (by simp) (by omega)).trans ?_
 ·intro i o hi ho
  simp only[List.length_append,List.length_cons,List.length_nil];omega
 ·intro n i o hi ho
  show gn bad k_ (af.length+1) af (len af) (n+1) (i:Int) o=_
  rw[IZ]
  have er:[DC.int (rI (nth af i) 0),DC.int (rI (nth af i) 1),DC.sl (rR (nth af i) 2)]=nth af i:=df.eta (hw _ (gK hi))
  have hb:sm (rR (nth af i) 2)=true:=s2 _ (gK hi)
  have RG:room2 8 [] (rR (nth af i) 2)=true:=d3 hb (show 8≤8388608 by omega)
  have qV:∀x:List DC,room2 40 o [x]=true:=fun x=>Du (by simp only[List.length_cons,List.length_nil];omega) (by omega)
  simp only[rX,ca,ch hi,bw hi,hb,qV,er,bu hi hl,Int.toNat_natCast,ah,ao,cond_true]
 ·intro n o ho
  show gn bad k_ (af.length+1) af (len af) (n+1) (af.length:Int) o=_
  rw[IZ]
  simp only[rX,aQ,cond_false]
 ·exact congrArg k_ ((Me (fun (o:Rows) (r:List DC)=>o++[r]) af [] []).trans ((foldl_push (fun r=>r) af []).trans (by simp [ca])))
def um {α:Type} (bad:α) (k_:au→α) (sT:Rows) (az:Int) (bm:Int) (bn:Int) (bo:Int) (bp:Int) (bq:Int) (br:Int) (bs:Int) (eP:Rows) (bZ:Int→Rows→α) (k:Int) (cQ:Rows):α:=
 bif decide (k<len sT) then
  bif ak true (idx k sT) then
   bif ak (ak true (room2 8 [] (rR (nth sT (Int.toNat k)) 2))) (room2 40 cQ ([[.int (rI (nth sT (Int.toNat k)) 0),.int (rI (nth sT (Int.toNat k)) 1),.sl (rR (nth sT (Int.toNat k)) 2)]])) then
    bZ (w64 (k+1)) (cQ++([[.int (rI (nth sT (Int.toNat k)) 0),.int (rI (nth sT (Int.toNat k)) 1),.sl (rR (nth sT (Int.toNat k)) 2)]]))
   else bad
  else bad
 else k_ (⟨(⟨az,bm,bn,bo⟩:cf),(⟨bp,bq,br,eP⟩:aJ),cQ,bs⟩:au)
def fJ {α:Type} (bad:α) (k_:au→α) (N:Nat) (sT:Rows) (az:Int) (bm:Int) (bn:Int) (bo:Int) (bp:Int) (bq:Int) (br:Int) (bs:Int) (eP:Rows) (m_:Nat):Int→Rows→α:=
 Nat.rec (motive:=fun _=>Int→Rows→α) (fun _ _=>bad) (fun _ bZ=>um bad k_ sT az bm bn bo bp bq br bs eP bZ) m_
theorem Kl {α:Type} (bad:α) (k_:au→α) (N:Nat) (sT:Rows) (az:Int) (bm:Int) (bn:Int) (bo:Int) (bp:Int) (bq:Int) (br:Int) (bs:Int) (eP:Rows) (m_:Nat) (k:Int) (cQ:Rows):fJ bad k_ N sT az bm bn bo bp bq br bs eP (m_+1) k cQ=um bad k_ sT az bm bn bo bp bq br bs eP (fJ bad k_ N sT az bm bn bo bp bq br bs eP m_) k cQ:=rfl
def B3 {α:Type} (bad:α) (k_:au→α) (l0:Rows→Int→Int→Int→Int→Int→Int→Int→Int→Rows→Int→Rows→α) (q:au):α:=
 bif ak true (uZ q.a_) then
  l0 q.aG q.Ring.cP q.Ring.bB q.Ring.Head q.Ring.fk ((ca q.a_).cP) ((ca q.a_).bB) ((ca q.a_).Count) q.Next ((ca q.a_).dn) 0 []
 else bad
def B2 {α:Type} (bad:α) (k_:au→α) (N:Nat) (q:au):α:=B3 bad k_ (fun sT az bm bn bo bp bq br bs eP=>fJ bad k_ N sT az bm bn bo bp bq br bs eP N) q
def acS (q:au):Bool:=sm q.a_.dn && BZ q.aG
theorem agw {α:Type} (bad:α) (k_:au→α) (q:au) (h_q:WtL au.ct q.enc) (hok:acS q=true):∃N,B2 bad k_ N q=k_ (ca q):=by
 obtain⟨hl,hw⟩:=cU (au.Ez h_q)
 have om:=hok
 simp only[acS,BZ,Bool.and_eq_true,List.all_eq_true] at om
 obtain⟨s0,s1,s2⟩:=om
 have l1:=qU s1
 refine⟨q.aG.length+1, ?_⟩
 unfold B2 B3
 rw[show uZ q.a_=true from s0]
 have key:∀(x0 x1 x2 x3 x4 x5 x6 x7:Int) (F:Rows),fJ bad k_ (q.aG.length+1) q.aG x0 x1 x2 x3 x4 x5 x6 x7 F (q.aG.length+1) 0 []=k_ (⟨⟨x0,x1,x2,x3⟩,⟨x4,x5,x6,F⟩,q.aG,x7⟩:au):=by
  intro x0 x1 x2 x3 x4 x5 x6 x7 F
  refine (IJ q.aG.length (fun n i o=>fJ bad k_ (q.aG.length+1) q.aG x0 x1 x2 x3 x4 x5 x6 x7 F n i o) (fun i o=>o++[nth q.aG i]) (fun o=>k_ (⟨⟨x0,x1,x2,x3⟩,⟨x4,x5,x6,F⟩,o,x7⟩:au)) (fun i o=>o.length≤i) ?_ ?_ ?_ (q.aG.length+1) [] (by simp) (by omega)).trans ?_
  ·intro i o hi ho
   simp only[List.length_append,List.length_cons,List.length_nil];omega
  ·intro n i o hi ho
   show fJ bad k_ (q.aG.length+1) q.aG x0 x1 x2 x3 x4 x5 x6 x7 F (n+1) (i:Int) o=_
   rw[Kl]
   have er:[DC.int (rI (nth q.aG i) 0),DC.int (rI (nth q.aG i) 1),DC.sl (rR (nth q.aG i) 2)]=nth q.aG i:=df.eta (hw _ (gK hi))
   have hb:sm (rR (nth q.aG i) 2)=true:=s2 _ (gK hi)
   have RG:room2 8 [] (rR (nth q.aG i) 2)=true:=d3 hb (show 8≤8388608 by omega)
   have qV:∀x:List DC,room2 40 o [x]=true:=fun x=>Du (by simp only[List.length_cons,List.length_nil];omega) (by omega)
   simp only[um,ch hi,bw hi,RG,qV,er,bu hi hl,Int.toNat_natCast,ah,ao,cond_true]
  ·intro n o ho
   show fJ bad k_ (q.aG.length+1) q.aG x0 x1 x2 x3 x4 x5 x6 x7 F (n+1) (q.aG.length:Int) o=_
   rw[Kl]
   simp only[um,aQ,cond_false]
  ·exact congrArg (fun o=>k_ (⟨⟨x0,x1,x2,x3⟩,⟨x4,x5,x6,F⟩,o,x7⟩:au)) ((Me (fun (o:Rows) (r:List DC)=>o++[r]) q.aG [] []).trans ((foldl_push (fun r=>r) q.aG []).trans (by simp)))
 exact key _ _ _ _ _ _ _ _ _
def KM {α:Type} (bad:α) (k_:au→α) (q:au):α:=
 bif ak (ak true (uZ q.a_)) (BZ q.aG) then
  k_ (⟨q.Ring,ca q.a_,ca q.aG,q.Next⟩:au)
 else bad
theorem ajH {α:Type} (bad:α) (k_:au→α) (q:au) (h_q:WtL au.ct q.enc) (hok:acS q=true):KM bad k_ q=k_ (ca q):=by
 have om:=hok
 simp only[acS,Bool.and_eq_true] at om
 obtain⟨s0,s1⟩:=om
 unfold KM
 rw[show uZ q.a_=true from s0,s1]
 rfl
def rY {α:Type} (bad:α) (k_:aB→α) (x:Rows) (bl:Int) (bI:Rows) (cr:Rows) (cA:Int) (cB:Bool) (cu:Rows) (bQ:Rows) (bR:Rows) (bU:Bytes) (bS:Rows) (cv:Rows) (cx:Rows) (cy:Rows) (cz:Rows) (az:Int) (bm:Int) (bn:Int) (bo:Int) (bp:Int) (bq:Int) (br:Int) (bs:Int) (ba:Bool) (bb:Int) (bc:Int) (cM:Int) (bd:Int) (bf:Int) (bL:Rows) (aO:Rows) (aP:Rows) (aE:Rows) (aF:Rows) (bZ:Int→Rows→α) (bz:Int) (aT:Rows):α:=
 let z0:al:=(⟨bQ,(⟨bR⟩:ag),(⟨bU,bS⟩:aM)⟩:al)
 bif decide (bz<bl) then
  bif ak true (idx bz x) then
   bif ak (ak true (uZ (aJ.ae (nth x (Int.toNat bz)) 0))) (room2 48 aT [aJ.enc (ca (aJ.ae (nth x (Int.toNat bz)) 0))]) then
    bZ (w64 (bz+1)) (aT++[aJ.enc (ca (aJ.ae (nth x (Int.toNat bz)) 0))])
   else bad
  else bad
 else bif ak true (room2 40 [] bI) then
   bif ak true (room2 1 [] cr) then
    bif ak true (RP (⟨cA,cB,cu⟩:aI)) then
     bif ak true (JL z0) then
      bif ak true (sm cv) then
       bif ak true (sm cx) then
        bif ak true (sm cy) then
         bif ak true (sm cz) then
          k_ (⟨(⟨bL⟩:aK),aO,(⟨(⟨az,bm,bn,bo⟩:cf),(⟨bp,bq,br,aP⟩:aJ),aE,bs⟩:au),aF,aT,bI,cr,ca (⟨cA,cB,cu⟩:aI),ca z0,ca cv,ba,ca cx,ca cy,ca cz,(⟨bb,bc,cM,bd,bf⟩:bC)⟩:aB)
         else bad
        else bad
       else bad
      else bad
     else bad
    else bad
   else bad
  else bad
def fg {α:Type} (bad:α) (k_:aB→α) (N:Nat) (x:Rows) (bl:Int) (bI:Rows) (cr:Rows) (cA:Int) (cB:Bool) (cu:Rows) (bQ:Rows) (bR:Rows) (bU:Bytes) (bS:Rows) (cv:Rows) (cx:Rows) (cy:Rows) (cz:Rows) (az:Int) (bm:Int) (bn:Int) (bo:Int) (bp:Int) (bq:Int) (br:Int) (bs:Int) (ba:Bool) (bb:Int) (bc:Int) (cM:Int) (bd:Int) (bf:Int) (bL:Rows) (aO:Rows) (aP:Rows) (aE:Rows) (aF:Rows) (m_:Nat):Int→Rows→α:=
 Nat.rec (motive:=fun _=>Int→Rows→α) (fun _ _=>bad) (fun _ bZ=>rY bad k_ x bl bI cr cA cB cu bQ bR bU bS cv cx cy cz az bm bn bo bp bq br bs ba bb bc cM bd bf bL aO aP aE aF bZ) m_
theorem I0 {α:Type} (bad:α) (k_:aB→α) (N:Nat) (x:Rows) (bl:Int) (bI:Rows) (cr:Rows) (cA:Int) (cB:Bool) (cu:Rows) (bQ:Rows) (bR:Rows) (bU:Bytes) (bS:Rows) (cv:Rows) (cx:Rows) (cy:Rows) (cz:Rows) (az:Int) (bm:Int) (bn:Int) (bo:Int) (bp:Int) (bq:Int) (br:Int) (bs:Int) (ba:Bool) (bb:Int) (bc:Int) (cM:Int) (bd:Int) (bf:Int) (bL:Rows) (aO:Rows) (aP:Rows) (aE:Rows) (aF:Rows) (m_:Nat) (bz:Int) (aT:Rows):fg bad k_ N x bl bI cr cA cB cu bQ bR bU bS cv cx cy cz az bm bn bo bp bq br bs ba bb bc cM bd bf bL aO aP aE aF (m_+1) bz aT=rY bad k_ x bl bI cr cA cB cu bQ bR bU bS cv cx cy cz az bm bn bo bp bq br bs ba bb bc cM bd bf bL aO aP aE aF (fg bad k_ N x bl bI cr cA cB cu bQ bR bU bS cv cx cy cz az bm bn bo bp bq br bs ba bb bc cM bd bf bL aO aP aE aF m_) bz aT:=rfl
def z_ {α:Type} (bad:α) (k_:aB→α) (l0:Rows→Int→Rows→Rows→Int→Bool→Rows→Rows→Rows→Bytes→Rows→Rows→Rows→Rows→Rows→Int→Int→Int→Int→Int→Int→Int→Int→Bool→Int→Int→Int→Int→Int→Rows→Rows→Rows→Rows→Rows→Int→Rows→α) (h:aB):α:=
 bif ak true (V1 h.bV) then
  bif ak true (sm h.Maps) then
   bif ak true (acS h.Tx) then
    bif ak true (room2 248 [] h.Rx) then
     l0 h.bN (len h.bN) h.aY h.cj h.Filter.G3 h.Filter.bA h.Filter.cW h.aj.bW h.aj.Table.aL h.aj.bj.Key h.aj.bj.Table h.cO h.ic h.bK h.b_ (((ca h.Tx).Ring).cP) (((ca h.Tx).Ring).bB) (((ca h.Tx).Ring).Head) (((ca h.Tx).Ring).fk) (((ca h.Tx).a_).cP) (((ca h.Tx).a_).bB) (((ca h.Tx).a_).Count) ((ca h.Tx).Next) h.dp h.Counters.Frames h.Counters.KN h.Counters.di h.Counters.dE h.Counters.fC ((ca h.bV).dm) (ca h.Maps) (((ca h.Tx).a_).dn) ((ca h.Tx).aG) h.Rx 0 []
    else bad
   else bad
  else bad
 else bad
def zZ {α:Type} (bad:α) (k_:aB→α) (N:Nat) (h:aB):α:=z_ bad k_ (fun x bl bI cr cA cB cu bQ bR bU bS cv cx cy cz az bm bn bo bp bq br bs ba bb bc cM bd bf bL aO aP aE aF=>fg bad k_ N x bl bI cr cA cB cu bQ bR bU bS cv cx cy cz az bm bn bo bp bq br bs ba bb bc cM bd bf bL aO aP aE aF N) h
theorem acY {α:Type} (bad:α) (k_:aB→α) (h:aB) (h_h:WtL aB.ct h.enc) (hok:tx h=true):∃N,zZ bad k_ N h=k_ (ca h):=by
 obtain⟨hl,hw⟩:=cU (aB.aiE h_h)
 have om:tx h=true:=hok
 simp only[tx,Bool.and_eq_true] at om
 obtain⟨s0,s1,s2,s3,s4,s5,s6,s7,s8,s9,s10,s11,s12,s13,s14,s15⟩:=om
 simp only[MR,Bool.and_eq_true,List.all_eq_true] at s5
 obtain⟨t1,t2⟩:=s5
 have l1:=qU t1
 have m2:acS h.Tx=true:=by simp only[acS,s2,s3,Bool.and_self]
 have r4:room2 248 [] h.Rx=true:=d3 s4 (by omega)
 refine⟨h.bN.length+1, ?_⟩
 unfold zZ z_
 rw[show V1 h.bV=true from s0]
 simp only[m2,r4,s1,ah,cond_true]
 have key:∀(bI:Rows) (cr:Rows) (cA:Int) (cB:Bool) (cu:Rows) (bQ:Rows) (bR:Rows) (bU:Bytes) (bS:Rows) (cv:Rows) (cx:Rows) (cy:Rows) (cz:Rows) (az:Int) (bm:Int) (bn:Int) (bo:Int) (bp:Int) (bq:Int) (br:Int) (bs:Int) (ba:Bool) (bb:Int) (bc:Int) (cM:Int) (bd:Int) (bf:Int) (bL:Rows) (aO:Rows) (aP:Rows) (aE:Rows) (aF:Rows),sm bI=true→sm cr=true→sm cu=true→sm bQ=true→sm bR=true→sm bS=true→sm cv=true→sm cx=true→sm cy=true→sm cz=true→
   fg bad k_ (h.bN.length+1) h.bN (len h.bN) bI cr cA cB cu bQ bR bU bS cv cx cy cz az bm bn bo bp bq br bs ba bb bc cM bd bf bL aO aP aE aF (h.bN.length+1) 0 []=k_ (⟨(⟨bL⟩:aK),aO,(⟨(⟨az,bm,bn,bo⟩:cf),(⟨bp,bq,br,aP⟩:aJ),aE,bs⟩:au),aF,h.bN,bI,cr,(⟨cA,cB,cu⟩:aI),(⟨bQ,(⟨bR⟩:ag),(⟨bU,bS⟩:aM)⟩:al),cv,ba,cx,cy,cz,(⟨bb,bc,cM,bd,bf⟩:bC)⟩:aB):=by
  intro bI cr cA cB cu bQ bR bU bS cv cx cy cz az bm bn bo bp bq br bs ba bb bc cM bd bf bL aO aP aE aF q6 q7 q8 q9 q10 q11 q12 q13 q14 q15
  have u6:room2 40 [] bI=true:=d3 q6 (by omega)
  have u7:room2 1 [] cr=true:=d3 q7 (by omega)
  have u8:RP (⟨cA,cB,cu⟩:aI)=true:=q8
  have u9:JL (⟨bQ,(⟨bR⟩:ag),(⟨bU,bS⟩:aM)⟩:al)=true:=by simp only[JL,q9,q10,q11,Bool.and_self]
  have u12:room2 72 [] cv=true:=d3 q12 (by omega)
  have u13:room2 16 [] cx=true:=d3 q13 (by omega)
  have u14:room2 8 [] cy=true:=d3 q14 (by omega)
  have u15:room2 8 [] cz=true:=d3 q15 (by omega)
  refine (IJ h.bN.length (fun n i o=>fg bad k_ (h.bN.length+1) h.bN (len h.bN) bI cr cA cB cu bQ bR bU bS cv cx cy cz az bm bn bo bp bq br bs ba bb bc cM bd bf bL aO aP aE aF n i o) (fun i o=>o++[nth h.bN i]) (fun o=>k_ (⟨(⟨bL⟩:aK),aO,(⟨(⟨az,bm,bn,bo⟩:cf),(⟨bp,bq,br,aP⟩:aJ),aE,bs⟩:au),aF,o,bI,cr,(⟨cA,cB,cu⟩:aI),(⟨bQ,(⟨bR⟩:ag),(⟨bU,bS⟩:aM)⟩:al),cv,ba,cx,cy,cz,(⟨bb,bc,cM,bd,bf⟩:bC)⟩:aB)) (fun i o=>o.length≤i) ?_ ?_ ?_ (h.bN.length+1) [] (by simp) (by omega)).trans ?_
  ·intro i o hi ho
   simp only[List.length_append,List.length_cons,List.length_nil];omega
  ·intro n i o hi ho
   show fg bad k_ (h.bN.length+1) h.bN (len h.bN) bI cr cA cB cu bQ bR bU bS cv cx cy cz az bm bn bo bp bq br bs ba bb bc cM bd bf bL aO aP aE aF (n+1) (i:Int) o=_
   rw[I0]
   have er:aJ.enc (aJ.ae (nth h.bN i) 0)=nth h.bN i:=aJ.eta (hw _ (gK hi))
   have hb:uZ (aJ.ae (nth h.bN i) 0)=true:=t2 _ (gK hi)
   have qV:∀x:List DC,room2 48 o [x]=true:=fun x=>Du (by simp only[List.length_cons,List.length_nil];omega) (by omega)
   simp only[rY,ca,ch hi,bw hi,hb,qV,er,bu hi hl,Int.toNat_natCast,ah,ao,cond_true]
  ·intro n o ho
   show fg bad k_ (h.bN.length+1) h.bN (len h.bN) bI cr cA cB cu bQ bR bU bS cv cx cy cz az bm bn bo bp bq br bs ba bb bc cM bd bf bL aO aP aE aF (n+1) (h.bN.length:Int) o=_
   rw[I0]
   simp only[rY,aQ,cond_false,ca,u6,u7,u8,u9,u12,u13,u14,u15,q12,q13,q14,q15,ah,cond_true]
  ·exact congrArg (fun o=>k_ (⟨(⟨bL⟩:aK),aO,(⟨(⟨az,bm,bn,bo⟩:cf),(⟨bp,bq,br,aP⟩:aJ),aE,bs⟩:au),aF,o,bI,cr,(⟨cA,cB,cu⟩:aI),(⟨bQ,(⟨bR⟩:ag),(⟨bU,bS⟩:aM)⟩:al),cv,ba,cx,cy,cz,(⟨bb,bc,cM,bd,bf⟩:bC)⟩:aB)) ((Me (fun (o:Rows) (r:List DC)=>o++[r]) h.bN [] []).trans ((foldl_push (fun r=>r) h.bN []).trans (by simp)))
 exact key _ _ _ _ _ _ _ _ _ _ _ _ _ _ _ _ _ _ _ _ _ _ _ _ _ _ _ _ _ _ _ _ s6 s7 s8 s9 s10 s11 s12 s13 s14 s15
def ur {α:Type} (bad:α) (k_:aB→α) (cn:Rows) (bI:Rows) (cr:Rows) (cA:Int) (cB:Bool) (cu:Rows) (bQ:Rows) (bR:Rows) (bU:Bytes) (bS:Rows) (cv:Rows) (cx:Rows) (cy:Rows) (cz:Rows) (az:Int) (bm:Int) (bn:Int) (bo:Int) (bp:Int) (bq:Int) (br:Int) (bs:Int) (ba:Bool) (bb:Int) (bc:Int) (cM:Int) (bd:Int) (bf:Int) (bL:Rows) (aO:Rows) (aP:Rows) (aE:Rows) (aF:Rows) (bZ:Int→Rows→α) (k:Int) (aT:Rows):α:=
 let z0:al:=(⟨bQ,(⟨bR⟩:ag),(⟨bU,bS⟩:aM)⟩:al)
 bif decide (k<len cn) then
  bif ak (ak (ak true (idx k cn)) (uZ (aJ.ae (nth cn (Int.toNat k)) 0))) (room2 48 aT [aJ.enc (ca (aJ.ae (nth cn (Int.toNat k)) 0))]) then
   bZ (w64 (k+1)) (aT++[aJ.enc (ca (aJ.ae (nth cn (Int.toNat k)) 0))])
  else bad
 else bif ak true (room2 40 [] bI) then
   bif ak true (room2 1 [] cr) then
    bif ak true (RP (⟨cA,cB,cu⟩:aI)) then
     bif ak true (JL z0) then
      bif ak true (room2 72 [] cv) then
       bif ak true (room2 16 [] cx) then
        bif ak true (room2 8 [] cy) then
         bif ak true (room2 8 [] cz) then
          k_ (⟨(⟨bL⟩:aK),aO,(⟨(⟨az,bm,bn,bo⟩:cf),(⟨bp,bq,br,aP⟩:aJ),aE,bs⟩:au),aF,aT,bI,cr,ca (⟨cA,cB,cu⟩:aI),ca z0,cv,ba,cx,cy,cz,(⟨bb,bc,cM,bd,bf⟩:bC)⟩:aB)
         else bad
        else bad
       else bad
      else bad
     else bad
    else bad
   else bad
  else bad
def fK {α:Type} (bad:α) (k_:aB→α) (N:Nat) (cn:Rows) (bI:Rows) (cr:Rows) (cA:Int) (cB:Bool) (cu:Rows) (bQ:Rows) (bR:Rows) (bU:Bytes) (bS:Rows) (cv:Rows) (cx:Rows) (cy:Rows) (cz:Rows) (az:Int) (bm:Int) (bn:Int) (bo:Int) (bp:Int) (bq:Int) (br:Int) (bs:Int) (ba:Bool) (bb:Int) (bc:Int) (cM:Int) (bd:Int) (bf:Int) (bL:Rows) (aO:Rows) (aP:Rows) (aE:Rows) (aF:Rows) (m_:Nat):Int→Rows→α:=
 Nat.rec (motive:=fun _=>Int→Rows→α) (fun _ _=>bad) (fun _ bZ=>ur bad k_ cn bI cr cA cB cu bQ bR bU bS cv cx cy cz az bm bn bo bp bq br bs ba bb bc cM bd bf bL aO aP aE aF bZ) m_
theorem Km {α:Type} (bad:α) (k_:aB→α) (N:Nat) (cn:Rows) (bI:Rows) (cr:Rows) (cA:Int) (cB:Bool) (cu:Rows) (bQ:Rows) (bR:Rows) (bU:Bytes) (bS:Rows) (cv:Rows) (cx:Rows) (cy:Rows) (cz:Rows) (az:Int) (bm:Int) (bn:Int) (bo:Int) (bp:Int) (bq:Int) (br:Int) (bs:Int) (ba:Bool) (bb:Int) (bc:Int) (cM:Int) (bd:Int) (bf:Int) (bL:Rows) (aO:Rows) (aP:Rows) (aE:Rows) (aF:Rows) (m_:Nat) (k:Int) (aT:Rows):fK bad k_ N cn bI cr cA cB cu bQ bR bU bS cv cx cy cz az bm bn bo bp bq br bs ba bb bc cM bd bf bL aO aP aE aF (m_+1) k aT=ur bad k_ cn bI cr cA cB cu bQ bR bU bS cv cx cy cz az bm bn bo bp bq br bs ba bb bc cM bd bf bL aO aP aE aF (fK bad k_ N cn bI cr cA cB cu bQ bR bU bS cv cx cy cz az bm bn bo bp bq br bs ba bb bc cM bd bf bL aO aP aE aF m_) k aT:=rfl
def B8 {α:Type} (bad:α) (k_:aB→α) (l0:Rows→Rows→Rows→Int→Bool→Rows→Rows→Rows→Bytes→Rows→Rows→Rows→Rows→Rows→Int→Int→Int→Int→Int→Int→Int→Int→Bool→Int→Int→Int→Int→Int→Rows→Rows→Rows→Rows→Rows→Int→Rows→α) (h:aB):α:=
 bif ak true (V1 h.bV) then
  bif ak true (room2 32 [] h.Maps) then
   bif ak true (acS h.Tx) then
    bif ak true (room2 248 [] h.Rx) then
     l0 h.bN h.aY h.cj h.Filter.G3 h.Filter.bA h.Filter.cW h.aj.bW h.aj.Table.aL h.aj.bj.Key h.aj.bj.Table h.cO h.ic h.bK h.b_ (((ca h.Tx).Ring).cP) (((ca h.Tx).Ring).bB) (((ca h.Tx).Ring).Head) (((ca h.Tx).Ring).fk) (((ca h.Tx).a_).cP) (((ca h.Tx).a_).bB) (((ca h.Tx).a_).Count) ((ca h.Tx).Next) h.dp h.Counters.Frames h.Counters.KN h.Counters.di h.Counters.dE h.Counters.fC ((ca h.bV).dm) h.Maps (((ca h.Tx).a_).dn) ((ca h.Tx).aG) h.Rx 0 []
    else bad
   else bad
  else bad
 else bad
def B7 {α:Type} (bad:α) (k_:aB→α) (N:Nat) (h:aB):α:=B8 bad k_ (fun cn bI cr cA cB cu bQ bR bU bS cv cx cy cz az bm bn bo bp bq br bs ba bb bc cM bd bf bL aO aP aE aF=>fK bad k_ N cn bI cr cA cB cu bQ bR bU bS cv cx cy cz az bm bn bo bp bq br bs ba bb bc cM bd bf bL aO aP aE aF N) h
theorem agA {α:Type} (bad:α) (k_:aB→α) (h:aB) (h_h:WtL aB.ct h.enc) (hok:tx h=true):∃N,B7 bad k_ N h=k_ (ca h):=by
 obtain⟨hl,hw⟩:=cU (aB.aiE h_h)
 have om:tx h=true:=hok
 simp only[tx,Bool.and_eq_true] at om
 obtain⟨s0,s1,s2,s3,s4,s5,s6,s7,s8,s9,s10,s11,s12,s13,s14,s15⟩:=om
 simp only[MR,Bool.and_eq_true,List.all_eq_true] at s5
 obtain⟨t1,t2⟩:=s5
 have l1:=qU t1
 have m2:acS h.Tx=true:=by simp only[acS,s2,s3,Bool.and_self]
 have r4:room2 248 [] h.Rx=true:=d3 s4 (by omega)
 have r1:room2 32 [] h.Maps=true:=d3 s1 (by omega)
 refine⟨h.bN.length+1, ?_⟩
 unfold B7 B8
 rw[show V1 h.bV=true from s0]
 simp only[m2,r4,r1,ah,cond_true]
 have key:∀(bI:Rows) (cr:Rows) (cA:Int) (cB:Bool) (cu:Rows) (bQ:Rows) (bR:Rows) (bU:Bytes) (bS:Rows) (cv:Rows) (cx:Rows) (cy:Rows) (cz:Rows) (az:Int) (bm:Int) (bn:Int) (bo:Int) (bp:Int) (bq:Int) (br:Int) (bs:Int) (ba:Bool) (bb:Int) (bc:Int) (cM:Int) (bd:Int) (bf:Int) (bL:Rows) (aO:Rows) (aP:Rows) (aE:Rows) (aF:Rows),sm bI=true→sm cr=true→sm cu=true→sm bQ=true→sm bR=true→sm bS=true→sm cv=true→sm cx=true→sm cy=true→sm cz=true→
   fK bad k_ (h.bN.length+1) h.bN bI cr cA cB cu bQ bR bU bS cv cx cy cz az bm bn bo bp bq br bs ba bb bc cM bd bf bL aO aP aE aF (h.bN.length+1) 0 []=k_ (⟨(⟨bL⟩:aK),aO,(⟨(⟨az,bm,bn,bo⟩:cf),(⟨bp,bq,br,aP⟩:aJ),aE,bs⟩:au),aF,h.bN,bI,cr,(⟨cA,cB,cu⟩:aI),(⟨bQ,(⟨bR⟩:ag),(⟨bU,bS⟩:aM)⟩:al),cv,ba,cx,cy,cz,(⟨bb,bc,cM,bd,bf⟩:bC)⟩:aB):=by
  intro bI cr cA cB cu bQ bR bU bS cv cx cy cz az bm bn bo bp bq br bs ba bb bc cM bd bf bL aO aP aE aF q6 q7 q8 q9 q10 q11 q12 q13 q14 q15
  have u6:room2 40 [] bI=true:=d3 q6 (by omega)
  have u7:room2 1 [] cr=true:=d3 q7 (by omega)
  have u8:RP (⟨cA,cB,cu⟩:aI)=true:=q8
  have u9:JL (⟨bQ,(⟨bR⟩:ag),(⟨bU,bS⟩:aM)⟩:al)=true:=by simp only[JL,q9,q10,q11,Bool.and_self]
  have u12:room2 72 [] cv=true:=d3 q12 (by omega)
  have u13:room2 16 [] cx=true:=d3 q13 (by omega)
  have u14:room2 8 [] cy=true:=d3 q14 (by omega)
  have u15:room2 8 [] cz=true:=d3 q15 (by omega)
  refine (IJ h.bN.length (fun n i o=>fK bad k_ (h.bN.length+1) h.bN bI cr cA cB cu bQ bR bU bS cv cx cy cz az bm bn bo bp bq br bs ba bb bc cM bd bf bL aO aP aE aF n i o) (fun i o=>o++[nth h.bN i]) (fun o=>k_ (⟨(⟨bL⟩:aK),aO,(⟨(⟨az,bm,bn,bo⟩:cf),(⟨bp,bq,br,aP⟩:aJ),aE,bs⟩:au),aF,o,bI,cr,(⟨cA,cB,cu⟩:aI),(⟨bQ,(⟨bR⟩:ag),(⟨bU,bS⟩:aM)⟩:al),cv,ba,cx,cy,cz,(⟨bb,bc,cM,bd,bf⟩:bC)⟩:aB)) (fun i o=>o.length≤i) ?_ ?_ ?_ (h.bN.length+1) [] (by simp) (by omega)).trans ?_
  ·intro i o hi ho
   simp only[List.length_append,List.length_cons,List.length_nil];omega
  ·intro n i o hi ho
   show fK bad k_ (h.bN.length+1) h.bN bI cr cA cB cu bQ bR bU bS cv cx cy cz az bm bn bo bp bq br bs ba bb bc cM bd bf bL aO aP aE aF (n+1) (i:Int) o=_
   rw[Km]
   have er:aJ.enc (aJ.ae (nth h.bN i) 0)=nth h.bN i:=aJ.eta (hw _ (gK hi))
   have hb:uZ (aJ.ae (nth h.bN i) 0)=true:=t2 _ (gK hi)
   have qV:∀x:List DC,room2 48 o [x]=true:=fun x=>Du (by simp only[List.length_cons,List.length_nil];omega) (by omega)
   simp only[ur,ca,ch hi,bw hi,hb,qV,er,bu hi hl,Int.toNat_natCast,ah,ao,cond_true]
  ·intro n o ho
   show fK bad k_ (h.bN.length+1) h.bN bI cr cA cB cu bQ bR bU bS cv cx cy cz az bm bn bo bp bq br bs ba bb bc cM bd bf bL aO aP aE aF (n+1) (h.bN.length:Int) o=_
   rw[Km]
   simp only[ur,aQ,cond_false,ca,u6,u7,u8,u9,u12,u13,u14,u15,q12,q13,q14,q15,ah,cond_true]
  ·exact congrArg (fun o=>k_ (⟨(⟨bL⟩:aK),aO,(⟨(⟨az,bm,bn,bo⟩:cf),(⟨bp,bq,br,aP⟩:aJ),aE,bs⟩:au),aF,o,bI,cr,(⟨cA,cB,cu⟩:aI),(⟨bQ,(⟨bR⟩:ag),(⟨bU,bS⟩:aM)⟩:al),cv,ba,cx,cy,cz,(⟨bb,bc,cM,bd,bf⟩:bC)⟩:aB)) ((Me (fun (o:Rows) (r:List DC)=>o++[r]) h.bN [] []).trans ((foldl_push (fun r=>r) h.bN []).trans (by simp)))
 exact key _ _ _ _ _ _ _ _ _ _ _ _ _ _ _ _ _ _ _ _ _ _ _ _ _ _ _ _ _ _ _ _ s6 s7 s8 s9 s10 s11 s12 s13 s14 s15
def B9 {α:Type} (k_:aC→α) (v:aC):α:=
 bif bif due v then !v.Dz else false then k_ (⟨v.sM,v.yE,v.Count,v.Time,v.Dz,true⟩:aC)
 else k_ v
def MH (v:aC):aC:=B9 id v
theorem agF {α:Type} (k_:aC→α) (v:aC):B9 k_ v=k_ (MH v):=by
 exact cT rfl rfl
def Gg {α:Type} (k_:aC→α) (v:aC):α:=
 k_ (⟨bif v.Ba then v.sM else bif due v then v.sM else v.sM,bif v.Ba then v.yE else bif due v then v.yE else v.yE,bif v.Ba then v.Count else bif due v then v.Count else v.Count,bif v.Ba then v.Time else bif due v then v.Time else v.Time,bif v.Ba then v.Dz else bif due v then v.Dz else v.Dz,bif v.Ba then true else bif due v then !v.Dz else false⟩:aC)
theorem ac4 {α:Type} (k_:aC→α) (v:aC) (h_v:WtL aC.ct v.enc):Gg k_ v=k_ (MH v):=by
 unfold Gg MH B9
 obtain⟨a,b,c,d,e,f⟩:=v
 cases f
 ·cases due (⟨a,b,c,d,e,false⟩:aC)
  ·rfl
  ·cases e<;>rfl
 ·cases hd:(bif due (⟨a,b,c,d,e,true⟩:aC) then !(⟨a,b,c,d,e,true⟩:aC).Dz else false)<;>rfl
def Ca {α:Type} (k_:aC→α) (v:aC):α:=
 bif !(il v) then k_ v
 else bif decide (0<v.Count) then k_ (MH (⟨v.sM,v.yE,v.Count,minI (w64 (v.Time+1)) 1000000,v.Dz,v.Ba⟩:aC))
 else k_ (MH v)
def nF (v:aC):aC:=Ca id v
theorem Wd {α:Type} (k_:aC→α) (v:aC):Ca k_ v=k_ (nF v):=by
 exact cT rfl (cT rfl rfl)
def Cc {α:Type} (k_:aC→α) (v:aC):α:=
 bif !(il v) then k_ v
 else bif decide (0<v.Count) then k_ (MH (⟨v.sM,v.yE,v.Count,minI 1000000 (w64 (v.Time+1)),v.Dz,v.Ba⟩:aC))
 else k_ (MH v)
theorem Wh {α:Type} (k_:aC→α) (v:aC) (h_v:WtL aC.ct v.enc):Cc k_ v=k_ (nF v):=by
 unfold Cc
 rw[apm]
 exact cT rfl (cT rfl rfl)
def Xz (r:List DC):List DC:=aC.enc (nF (aC.ae r 0))
def sU (h:aB):Bool:=tx h && Gd h
def dr (h:aB):aB:=bif AW h then {h with aY:=h.aY.map Xz} else h
def rZ {α:Type} (bad:α) (k_:aB→α) (x:Int) (az:Int) (bm:Int) (bn:Int) (bo:Int) (bp:Int) (bq:Int) (br:Int) (bs:Int) (cQ:Int) (dy:Bool) (cD:Bytes) (cE:Bool) (cF:Int) (cG:Int) (cH:Int) (cI:Int) (cJ:Int) (bL:Rows) (aO:Rows) (aP:Rows) (aE:Rows) (aF:Rows) (aT:Rows) (bY:Rows) (ba:Rows) (cK:Rows) (cL:Rows) (bb:Rows) (bc:Rows) (bd:Rows) (bf:Rows) (dx:Rows) (bZ:Int→Rows→α) (bl:Int) (cC:Rows):α:=
 bif decide (bl<x) then
  bif ak (ak (ak (ak true (idx bl cC)) (inl (Int.toNat bl) cC)) (idx bl cC)) (inl (Int.toNat bl) cC) then
   bZ (w64 (bl+1)) (List.set cC (Int.toNat bl) (aD (nth cC (Int.toNat bl)) 0 (aC.enc (nF (aC.ae (nth cC (Int.toNat bl)) 0)))))
  else bad
 else k_ (⟨(⟨bL⟩:aK),aO,(⟨(⟨az,bm,bn,bo⟩:cf),(⟨bp,bq,br,aP⟩:aJ),aE,bs⟩:au),aF,aT,cC,bY,(⟨cQ,dy,ba⟩:aI),(⟨cK,(⟨cL⟩:ag),(⟨cD,bb⟩:aM)⟩:al),bc,cE,bd,bf,dx,(⟨cF,cG,cH,cI,cJ⟩:bC)⟩:aB)
def gr {α:Type} (bad:α) (k_:aB→α) (N:Nat) (x:Int) (az:Int) (bm:Int) (bn:Int) (bo:Int) (bp:Int) (bq:Int) (br:Int) (bs:Int) (cQ:Int) (dy:Bool) (cD:Bytes) (cE:Bool) (cF:Int) (cG:Int) (cH:Int) (cI:Int) (cJ:Int) (bL:Rows) (aO:Rows) (aP:Rows) (aE:Rows) (aF:Rows) (aT:Rows) (bY:Rows) (ba:Rows) (cK:Rows) (cL:Rows) (bb:Rows) (bc:Rows) (bd:Rows) (bf:Rows) (dx:Rows) (m_:Nat):Int→Rows→α:=
 Nat.rec (motive:=fun _=>Int→Rows→α) (fun _ _=>bad) (fun _ bZ=>rZ bad k_ x az bm bn bo bp bq br bs cQ dy cD cE cF cG cH cI cJ bL aO aP aE aF aT bY ba cK cL bb bc bd bf dx bZ) m_
theorem I1 {α:Type} (bad:α) (k_:aB→α) (N:Nat) (x:Int) (az:Int) (bm:Int) (bn:Int) (bo:Int) (bp:Int) (bq:Int) (br:Int) (bs:Int) (cQ:Int) (dy:Bool) (cD:Bytes) (cE:Bool) (cF:Int) (cG:Int) (cH:Int) (cI:Int) (cJ:Int) (bL:Rows) (aO:Rows) (aP:Rows) (aE:Rows) (aF:Rows) (aT:Rows) (bY:Rows) (ba:Rows) (cK:Rows) (cL:Rows) (bb:Rows) (bc:Rows) (bd:Rows) (bf:Rows) (dx:Rows) (m_:Nat) (bl:Int) (cC:Rows):gr bad k_ N x az bm bn bo bp bq br bs cQ dy cD cE cF cG cH cI cJ bL aO aP aE aF aT bY ba cK cL bb bc bd bf dx (m_+1) bl cC=rZ bad k_ x az bm bn bo bp bq br bs cQ dy cD cE cF cG cH cI cJ bL aO aP aE aF aT bY ba cK cL bb bc bd bf dx (gr bad k_ N x az bm bn bo bp bq br bs cQ dy cD cE cF cG cH cI cJ bL aO aP aE aF aT bY ba cK cL bb bc bd bf dx m_) bl cC:=rfl
def Ad {α:Type} (bad:α) (k_:aB→α) (l0:Int→Int→Int→Int→Int→Int→Int→Int→Int→Int→Bool→Bytes→Bool→Int→Int→Int→Int→Int→Rows→Rows→Rows→Rows→Rows→Rows→Rows→Rows→Rows→Rows→Rows→Rows→Rows→Rows→Rows→Int→Rows→α) (h:aB):α:=
 bif ak true (tx h) then
  bif ak true (Gd h) then
   bif !(AW h) then k_ (ca h)
   else l0 (len ((ca h).aY)) ((((ca h).Tx).Ring).cP) ((((ca h).Tx).Ring).bB) ((((ca h).Tx).Ring).Head) ((((ca h).Tx).Ring).fk) ((((ca h).Tx).a_).cP) ((((ca h).Tx).a_).bB) ((((ca h).Tx).a_).Count) (((ca h).Tx).Next) (((ca h).Filter).G3) (((ca h).Filter).bA) ((((ca h).aj).bj).Key) ((ca h).dp) (((ca h).Counters).Frames) (((ca h).Counters).KN) (((ca h).Counters).di) (((ca h).Counters).dE) (((ca h).Counters).fC) (((ca h).bV).dm) ((ca h).Maps) ((((ca h).Tx).a_).dn) (((ca h).Tx).aG) ((ca h).Rx) ((ca h).bN) ((ca h).cj) (((ca h).Filter).cW) (((ca h).aj).bW) ((((ca h).aj).Table).aL) ((((ca h).aj).bj).Table) ((ca h).cO) ((ca h).ic) ((ca h).bK) ((ca h).b_) 0 ((ca h).aY)
  else bad
 else bad
def Ac {α:Type} (bad:α) (k_:aB→α) (N:Nat) (h:aB):α:=Ad bad k_ (fun x az bm bn bo bp bq br bs cQ dy cD cE cF cG cH cI cJ bL aO aP aE aF aT bY ba cK cL bb bc bd bf dx=>gr bad k_ N x az bm bn bo bp bq br bs cQ dy cD cE cF cG cH cI cJ bL aO aP aE aF aT bY ba cK cL bb bc bd bf dx N) h
theorem ac8 {α:Type} (bad:α) (k_:aB→α) (h:aB) (h_h:WtL aB.ct h.enc) (hok:sU h=true):∃N,Ac bad k_ N h=k_ (dr h):=by
 obtain⟨hl,hw⟩:=cU (aB.UL h_h)
 have om:(tx h && Gd h)=true:=hok
 simp only[Bool.and_eq_true] at om
 obtain⟨s,b⟩:=om
 have b':Gd (⟨(⟨h.bV.dm⟩:aK),h.Maps,(⟨(⟨h.Tx.Ring.cP,h.Tx.Ring.bB,h.Tx.Ring.Head,h.Tx.Ring.fk⟩:cf),(⟨h.Tx.a_.cP,h.Tx.a_.bB,h.Tx.a_.Count,h.Tx.a_.dn⟩:aJ),h.Tx.aG,h.Tx.Next⟩:au),h.Rx,h.bN,h.aY,h.cj,(⟨h.Filter.G3,h.Filter.bA,h.Filter.cW⟩:aI),(⟨h.aj.bW,(⟨h.aj.Table.aL⟩:ag),(⟨h.aj.bj.Key,h.aj.bj.Table⟩:aM)⟩:al),h.cO,h.dp,h.ic,h.bK,h.b_,(⟨h.Counters.Frames,h.Counters.KN,h.Counters.di,h.Counters.dE,h.Counters.fC⟩:bC)⟩:aB)=true:=b
 refine⟨h.aY.length+1, ?_⟩
 unfold Ac Ad dr
 simp only[s,b,ca,ah,cond_true]
 cases hk:AW h
 ·rfl
 ·have hk':AW (⟨(⟨h.bV.dm⟩:aK),h.Maps,(⟨(⟨h.Tx.Ring.cP,h.Tx.Ring.bB,h.Tx.Ring.Head,h.Tx.Ring.fk⟩:cf),(⟨h.Tx.a_.cP,h.Tx.a_.bB,h.Tx.a_.Count,h.Tx.a_.dn⟩:aJ),h.Tx.aG,h.Tx.Next⟩:au),h.Rx,h.bN,h.aY,h.cj,(⟨h.Filter.G3,h.Filter.bA,h.Filter.cW⟩:aI),(⟨h.aj.bW,(⟨h.aj.Table.aL⟩:ag),(⟨h.aj.bj.Key,h.aj.bj.Table⟩:aM)⟩:al),h.cO,h.dp,h.ic,h.bK,h.b_,(⟨h.Counters.Frames,h.Counters.KN,h.Counters.di,h.Counters.dE,h.Counters.fC⟩:bC)⟩:aB)=true:=hk
  refine am2 h.aY (fun n i o=>gr bad k_ (h.aY.length+1) (len h.aY) h.Tx.Ring.cP h.Tx.Ring.bB h.Tx.Ring.Head h.Tx.Ring.fk h.Tx.a_.cP h.Tx.a_.bB h.Tx.a_.Count h.Tx.Next h.Filter.G3 h.Filter.bA h.aj.bj.Key h.dp h.Counters.Frames h.Counters.KN h.Counters.di h.Counters.dE h.Counters.fC h.bV.dm h.Maps h.Tx.a_.dn h.Tx.aG h.Rx h.bN h.cj h.Filter.cW h.aj.bW h.aj.Table.aL h.aj.bj.Table h.cO h.ic h.bK h.b_ n i o) (fun o=>k_ {h with aY:=o}) Xz ?_ ?_
  ·intro n i o hi ho hn
   show gr bad k_ (h.aY.length+1) (len h.aY) h.Tx.Ring.cP h.Tx.Ring.bB h.Tx.Ring.Head h.Tx.Ring.fk h.Tx.a_.cP h.Tx.a_.bB h.Tx.a_.Count h.Tx.Next h.Filter.G3 h.Filter.bA h.aj.bj.Key h.dp h.Counters.Frames h.Counters.KN h.Counters.di h.Counters.dE h.Counters.fC h.bV.dm h.Maps h.Tx.a_.dn h.Tx.aG h.Rx h.bN h.cj h.Filter.cW h.aj.bW h.aj.Table.aL h.aj.bj.Table h.cO h.ic h.bK h.b_ (n+1) (i:Int) o=_
   rw[I1]
   have e:=congrArg List.length (aC.eta (hw _ (gK hi)))
   have er:aD (nth h.aY i) 0 (aC.enc (nF (aC.ae (nth h.aY i) 0)))=aC.enc (nF (aC.ae (nth h.aY i) 0)):=fw (e.symm.trans rfl)
   have i1:idx (i:Int) o=true:=bw (by omega)
   have i2:inl i o=true:=eI (by omega)
   simp only[rZ,ch hi,bw hi,i1,i2,hn,er,b,b',hk,hk',bu hi hl,Int.toNat_natCast,ah,ao,Ey,cond_true,Xz]
  ·intro n o ho
   show gr bad k_ (h.aY.length+1) (len h.aY) h.Tx.Ring.cP h.Tx.Ring.bB h.Tx.Ring.Head h.Tx.Ring.fk h.Tx.a_.cP h.Tx.a_.bB h.Tx.a_.Count h.Tx.Next h.Filter.G3 h.Filter.bA h.aj.bj.Key h.dp h.Counters.Frames h.Counters.KN h.Counters.di h.Counters.dE h.Counters.fC h.bV.dm h.Maps h.Tx.a_.dn h.Tx.aG h.Rx h.bN h.cj h.Filter.cW h.aj.bW h.aj.Table.aL h.aj.bj.Table h.cO h.ic h.bK h.b_ (n+1) (h.aY.length:Int) o=_
   rw[I1]
   simp only[rZ,aQ,b,b',ah,Ey,cond_true,cond_false]
def mE {α:Type} (bad:α) (k_:aB→α) (nr:Rows) (h_2:Rows) (nt:Int) (nv:Int) (nw:Int) (nx:Int) (ny:Int) (nz:Int) (nA:Int) (dM:Rows) (dN:Rows) (dO:Int) (cX:Rows) (cn:Rows) (bI:Rows) (cr:Rows) (cA:Int) (cB:Bool) (cu:Rows) (bQ:Rows) (bR:Rows) (bU:Bytes) (bS:Rows) (cv:Rows) (dP:Bool) (cx:Rows) (cy:Rows) (cz:Rows) (c_:Int) (da:Int) (db:Int) (dc:Int) (dd:Int) (az:Int) (bm:Int) (bn:Int) (bo:Int) (bp:Int) (bq:Int) (br:Int) (bs:Int) (cQ:Int) (dy:Bool) (cD:Bytes) (cE:Bool) (cF:Int) (cG:Int) (cH:Int) (cI:Int) (cJ:Int) (bL:Rows) (aO:Rows) (aP:Rows) (aE:Rows) (aF:Rows) (aT:Rows) (bY:Rows) (ba:Rows) (cK:Rows) (cL:Rows) (bb:Rows) (bc:Rows) (bd:Rows) (bf:Rows) (dx:Rows) (bZ:Int→Rows→α) (k:Int) (cC:Rows):α:=
 let z0:aB:=(⟨(⟨nr⟩:aK),h_2,(⟨(⟨nt,nv,nw,nx⟩:cf),(⟨ny,nz,nA,dM⟩:aJ),dN,dO⟩:au),cX,cn,bI,cr,(⟨cA,cB,cu⟩:aI),(⟨bQ,(⟨bR⟩:ag),(⟨bU,bS⟩:aM)⟩:al),cv,dP,cx,cy,cz,(⟨c_,da,db,dc,dd⟩:bC)⟩:aB)
 bif RF (decide (k<len bI)) (ak true (Gd z0)) true then
  bif bif decide (k<len bI) then AW z0 else false then
   bif ak (ak (ak true (idx k bI)) (idx k cC)) (inl (Int.toNat k) cC) then
    bZ (w64 (k+1)) (List.set cC (Int.toNat k) (aD (nth cC (Int.toNat k)) 0 (aC.enc (nF (aC.ae (nth bI (Int.toNat k)) 0)))))
   else bad
  else k_ (⟨(⟨bL⟩:aK),aO,(⟨(⟨az,bm,bn,bo⟩:cf),(⟨bp,bq,br,aP⟩:aJ),aE,bs⟩:au),aF,aT,cC,bY,(⟨cQ,dy,ba⟩:aI),(⟨cK,(⟨cL⟩:ag),(⟨cD,bb⟩:aM)⟩:al),bc,cE,bd,bf,dx,(⟨cF,cG,cH,cI,cJ⟩:bC)⟩:aB)
 else bad
def gu {α:Type} (bad:α) (k_:aB→α) (N:Nat) (nr:Rows) (h_2:Rows) (nt:Int) (nv:Int) (nw:Int) (nx:Int) (ny:Int) (nz:Int) (nA:Int) (dM:Rows) (dN:Rows) (dO:Int) (cX:Rows) (cn:Rows) (bI:Rows) (cr:Rows) (cA:Int) (cB:Bool) (cu:Rows) (bQ:Rows) (bR:Rows) (bU:Bytes) (bS:Rows) (cv:Rows) (dP:Bool) (cx:Rows) (cy:Rows) (cz:Rows) (c_:Int) (da:Int) (db:Int) (dc:Int) (dd:Int) (az:Int) (bm:Int) (bn:Int) (bo:Int) (bp:Int) (bq:Int) (br:Int) (bs:Int) (cQ:Int) (dy:Bool) (cD:Bytes) (cE:Bool) (cF:Int) (cG:Int) (cH:Int) (cI:Int) (cJ:Int) (bL:Rows) (aO:Rows) (aP:Rows) (aE:Rows) (aF:Rows) (aT:Rows) (bY:Rows) (ba:Rows) (cK:Rows) (cL:Rows) (bb:Rows) (bc:Rows) (bd:Rows) (bf:Rows) (dx:Rows) (m_:Nat):Int→Rows→α:=
 Nat.rec (motive:=fun _=>Int→Rows→α) (fun _ _=>bad) (fun _ bZ=>mE bad k_ nr h_2 nt nv nw nx ny nz nA dM dN dO cX cn bI cr cA cB cu bQ bR bU bS cv dP cx cy cz c_ da db dc dd az bm bn bo bp bq br bs cQ dy cD cE cF cG cH cI cJ bL aO aP aE aF aT bY ba cK cL bb bc bd bf dx bZ) m_
theorem Bb {α:Type} (bad:α) (k_:aB→α) (N:Nat) (nr:Rows) (h_2:Rows) (nt:Int) (nv:Int) (nw:Int) (nx:Int) (ny:Int) (nz:Int) (nA:Int) (dM:Rows) (dN:Rows) (dO:Int) (cX:Rows) (cn:Rows) (bI:Rows) (cr:Rows) (cA:Int) (cB:Bool) (cu:Rows) (bQ:Rows) (bR:Rows) (bU:Bytes) (bS:Rows) (cv:Rows) (dP:Bool) (cx:Rows) (cy:Rows) (cz:Rows) (c_:Int) (da:Int) (db:Int) (dc:Int) (dd:Int) (az:Int) (bm:Int) (bn:Int) (bo:Int) (bp:Int) (bq:Int) (br:Int) (bs:Int) (cQ:Int) (dy:Bool) (cD:Bytes) (cE:Bool) (cF:Int) (cG:Int) (cH:Int) (cI:Int) (cJ:Int) (bL:Rows) (aO:Rows) (aP:Rows) (aE:Rows) (aF:Rows) (aT:Rows) (bY:Rows) (ba:Rows) (cK:Rows) (cL:Rows) (bb:Rows) (bc:Rows) (bd:Rows) (bf:Rows) (dx:Rows) (m_:Nat) (k:Int) (cC:Rows):gu bad k_ N nr h_2 nt nv nw nx ny nz nA dM dN dO cX cn bI cr cA cB cu bQ bR bU bS cv dP cx cy cz c_ da db dc dd az bm bn bo bp bq br bs cQ dy cD cE cF cG cH cI cJ bL aO aP aE aF aT bY ba cK cL bb bc bd bf dx (m_+1) k cC=mE bad k_ nr h_2 nt nv nw nx ny nz nA dM dN dO cX cn bI cr cA cB cu bQ bR bU bS cv dP cx cy cz c_ da db dc dd az bm bn bo bp bq br bs cQ dy cD cE cF cG cH cI cJ bL aO aP aE aF aT bY ba cK cL bb bc bd bf dx (gu bad k_ N nr h_2 nt nv nw nx ny nz nA dM dN dO cX cn bI cr cA cB cu bQ bR bU bS cv dP cx cy cz c_ da db dc dd az bm bn bo bp bq br bs cQ dy cD cE cF cG cH cI cJ bL aO aP aE aF aT bY ba cK cL bb bc bd bf dx m_) k cC:=rfl
def Ah {α:Type} (bad:α) (k_:aB→α) (l0:Rows→Rows→Int→Int→Int→Int→Int→Int→Int→Rows→Rows→Int→Rows→Rows→Rows→Rows→Int→Bool→Rows→Rows→Rows→Bytes→Rows→Rows→Bool→Rows→Rows→Rows→Int→Int→Int→Int→Int→Int→Int→Int→Int→Int→Int→Int→Int→Int→Bool→Bytes→Bool→Int→Int→Int→Int→Int→Rows→Rows→Rows→Rows→Rows→Rows→Rows→Rows→Rows→Rows→Rows→Rows→Rows→Rows→Rows→Int→Rows→α) (h:aB):α:=
 bif ak true (tx h) then
  l0 h.bV.dm h.Maps h.Tx.Ring.cP h.Tx.Ring.bB h.Tx.Ring.Head h.Tx.Ring.fk h.Tx.a_.cP h.Tx.a_.bB h.Tx.a_.Count h.Tx.a_.dn h.Tx.aG h.Tx.Next h.Rx h.bN h.aY h.cj h.Filter.G3 h.Filter.bA h.Filter.cW h.aj.bW h.aj.Table.aL h.aj.bj.Key h.aj.bj.Table h.cO h.dp h.ic h.bK h.b_ h.Counters.Frames h.Counters.KN h.Counters.di h.Counters.dE h.Counters.fC ((((ca h).Tx).Ring).cP) ((((ca h).Tx).Ring).bB) ((((ca h).Tx).Ring).Head) ((((ca h).Tx).Ring).fk) ((((ca h).Tx).a_).cP) ((((ca h).Tx).a_).bB) ((((ca h).Tx).a_).Count) (((ca h).Tx).Next) (((ca h).Filter).G3) (((ca h).Filter).bA) ((((ca h).aj).bj).Key) ((ca h).dp) (((ca h).Counters).Frames) (((ca h).Counters).KN) (((ca h).Counters).di) (((ca h).Counters).dE) (((ca h).Counters).fC) (((ca h).bV).dm) ((ca h).Maps) ((((ca h).Tx).a_).dn) (((ca h).Tx).aG) ((ca h).Rx) ((ca h).bN) ((ca h).cj) (((ca h).Filter).cW) (((ca h).aj).bW) ((((ca h).aj).Table).aL) ((((ca h).aj).bj).Table) ((ca h).cO) ((ca h).ic) ((ca h).bK) ((ca h).b_) 0 ((ca h).aY)
 else bad
def Ag {α:Type} (bad:α) (k_:aB→α) (N:Nat) (h:aB):α:=Ah bad k_ (fun nr h_2 nt nv nw nx ny nz nA dM dN dO cX cn bI cr cA cB cu bQ bR bU bS cv dP cx cy cz c_ da db dc dd az bm bn bo bp bq br bs cQ dy cD cE cF cG cH cI cJ bL aO aP aE aF aT bY ba cK cL bb bc bd bf dx=>gu bad k_ N nr h_2 nt nv nw nx ny nz nA dM dN dO cX cn bI cr cA cB cu bQ bR bU bS cv dP cx cy cz c_ da db dc dd az bm bn bo bp bq br bs cQ dy cD cE cF cG cH cI cJ bL aO aP aE aF aT bY ba cK cL bb bc bd bf dx N) h
theorem adb {α:Type} (bad:α) (k_:aB→α) (h:aB) (h_h:WtL aB.ct h.enc) (hok:sU h=true):∃N,Ag bad k_ N h=k_ (dr h):=by
 obtain⟨hl,hw⟩:=cU (aB.UL h_h)
 have om:(tx h && Gd h)=true:=hok
 simp only[Bool.and_eq_true] at om
 obtain⟨s,b⟩:=om
 have b':Gd (⟨(⟨h.bV.dm⟩:aK),h.Maps,(⟨(⟨h.Tx.Ring.cP,h.Tx.Ring.bB,h.Tx.Ring.Head,h.Tx.Ring.fk⟩:cf),(⟨h.Tx.a_.cP,h.Tx.a_.bB,h.Tx.a_.Count,h.Tx.a_.dn⟩:aJ),h.Tx.aG,h.Tx.Next⟩:au),h.Rx,h.bN,h.aY,h.cj,(⟨h.Filter.G3,h.Filter.bA,h.Filter.cW⟩:aI),(⟨h.aj.bW,(⟨h.aj.Table.aL⟩:ag),(⟨h.aj.bj.Key,h.aj.bj.Table⟩:aM)⟩:al),h.cO,h.dp,h.ic,h.bK,h.b_,(⟨h.Counters.Frames,h.Counters.KN,h.Counters.di,h.Counters.dE,h.Counters.fC⟩:bC)⟩:aB)=true:=b
 refine⟨h.aY.length+1, ?_⟩
 unfold Ag Ah dr
 simp only[s,b,ca,ah,cond_true]
 cases hk:AW h
 ·have hk':AW (⟨(⟨h.bV.dm⟩:aK),h.Maps,(⟨(⟨h.Tx.Ring.cP,h.Tx.Ring.bB,h.Tx.Ring.Head,h.Tx.Ring.fk⟩:cf),(⟨h.Tx.a_.cP,h.Tx.a_.bB,h.Tx.a_.Count,h.Tx.a_.dn⟩:aJ),h.Tx.aG,h.Tx.Next⟩:au),h.Rx,h.bN,h.aY,h.cj,(⟨h.Filter.G3,h.Filter.bA,h.Filter.cW⟩:aI),(⟨h.aj.bW,(⟨h.aj.Table.aL⟩:ag),(⟨h.aj.bj.Key,h.aj.bj.Table⟩:aM)⟩:al),h.cO,h.dp,h.ic,h.bK,h.b_,(⟨h.Counters.Frames,h.Counters.KN,h.Counters.di,h.Counters.dE,h.Counters.fC⟩:bC)⟩:aB)=false:=hk
  rw[Bb]
  simp only[mE,b,b',hk,hk',ah,Ey,cond_true]
  cases decide ((0:Int)<len h.aY)<;>rfl
 ·have hk':AW (⟨(⟨h.bV.dm⟩:aK),h.Maps,(⟨(⟨h.Tx.Ring.cP,h.Tx.Ring.bB,h.Tx.Ring.Head,h.Tx.Ring.fk⟩:cf),(⟨h.Tx.a_.cP,h.Tx.a_.bB,h.Tx.a_.Count,h.Tx.a_.dn⟩:aJ),h.Tx.aG,h.Tx.Next⟩:au),h.Rx,h.bN,h.aY,h.cj,(⟨h.Filter.G3,h.Filter.bA,h.Filter.cW⟩:aI),(⟨h.aj.bW,(⟨h.aj.Table.aL⟩:ag),(⟨h.aj.bj.Key,h.aj.bj.Table⟩:aM)⟩:al),h.cO,h.dp,h.ic,h.bK,h.b_,(⟨h.Counters.Frames,h.Counters.KN,h.Counters.di,h.Counters.dE,h.Counters.fC⟩:bC)⟩:aB)=true:=hk
  refine am2 h.aY (fun n i o=>gu bad k_ (h.aY.length+1) h.bV.dm h.Maps h.Tx.Ring.cP h.Tx.Ring.bB h.Tx.Ring.Head h.Tx.Ring.fk h.Tx.a_.cP h.Tx.a_.bB h.Tx.a_.Count h.Tx.a_.dn h.Tx.aG h.Tx.Next h.Rx h.bN h.aY h.cj h.Filter.G3 h.Filter.bA h.Filter.cW h.aj.bW h.aj.Table.aL h.aj.bj.Key h.aj.bj.Table h.cO h.dp h.ic h.bK h.b_ h.Counters.Frames h.Counters.KN h.Counters.di h.Counters.dE h.Counters.fC h.Tx.Ring.cP h.Tx.Ring.bB h.Tx.Ring.Head h.Tx.Ring.fk h.Tx.a_.cP h.Tx.a_.bB h.Tx.a_.Count h.Tx.Next h.Filter.G3 h.Filter.bA h.aj.bj.Key h.dp h.Counters.Frames h.Counters.KN h.Counters.di h.Counters.dE h.Counters.fC h.bV.dm h.Maps h.Tx.a_.dn h.Tx.aG h.Rx h.bN h.cj h.Filter.cW h.aj.bW h.aj.Table.aL h.aj.bj.Table h.cO h.ic h.bK h.b_ n i o) (fun o=>k_ {h with aY:=o}) Xz ?_ ?_
  ·intro n i o hi ho hn
   show gu bad k_ (h.aY.length+1) h.bV.dm h.Maps h.Tx.Ring.cP h.Tx.Ring.bB h.Tx.Ring.Head h.Tx.Ring.fk h.Tx.a_.cP h.Tx.a_.bB h.Tx.a_.Count h.Tx.a_.dn h.Tx.aG h.Tx.Next h.Rx h.bN h.aY h.cj h.Filter.G3 h.Filter.bA h.Filter.cW h.aj.bW h.aj.Table.aL h.aj.bj.Key h.aj.bj.Table h.cO h.dp h.ic h.bK h.b_ h.Counters.Frames h.Counters.KN h.Counters.di h.Counters.dE h.Counters.fC h.Tx.Ring.cP h.Tx.Ring.bB h.Tx.Ring.Head h.Tx.Ring.fk h.Tx.a_.cP h.Tx.a_.bB h.Tx.a_.Count h.Tx.Next h.Filter.G3 h.Filter.bA h.aj.bj.Key h.dp h.Counters.Frames h.Counters.KN h.Counters.di h.Counters.dE h.Counters.fC h.bV.dm h.Maps h.Tx.a_.dn h.Tx.aG h.Rx h.bN h.cj h.Filter.cW h.aj.bW h.aj.Table.aL h.aj.bj.Table h.cO h.ic h.bK h.b_ (n+1) (i:Int) o=_
   rw[Bb]
   have e:=congrArg List.length (aC.eta (hw _ (gK hi)))
   have er:aD (nth h.aY i) 0 (aC.enc (nF (aC.ae (nth h.aY i) 0)))=aC.enc (nF (aC.ae (nth h.aY i) 0)):=fw (e.symm.trans rfl)
   have i1:idx (i:Int) o=true:=bw (by omega)
   have i2:inl i o=true:=eI (by omega)
   simp only[mE,ch hi,bw hi,i1,i2,hn,er,b,b',hk,hk',bu hi hl,Int.toNat_natCast,ah,ao,Ey,cond_true,Xz]
  ·intro n o ho
   show gu bad k_ (h.aY.length+1) h.bV.dm h.Maps h.Tx.Ring.cP h.Tx.Ring.bB h.Tx.Ring.Head h.Tx.Ring.fk h.Tx.a_.cP h.Tx.a_.bB h.Tx.a_.Count h.Tx.a_.dn h.Tx.aG h.Tx.Next h.Rx h.bN h.aY h.cj h.Filter.G3 h.Filter.bA h.Filter.cW h.aj.bW h.aj.Table.aL h.aj.bj.Key h.aj.bj.Table h.cO h.dp h.ic h.bK h.b_ h.Counters.Frames h.Counters.KN h.Counters.di h.Counters.dE h.Counters.fC h.Tx.Ring.cP h.Tx.Ring.bB h.Tx.Ring.Head h.Tx.Ring.fk h.Tx.a_.cP h.Tx.a_.bB h.Tx.a_.Count h.Tx.Next h.Filter.G3 h.Filter.bA h.aj.bj.Key h.dp h.Counters.Frames h.Counters.KN h.Counters.di h.Counters.dE h.Counters.fC h.bV.dm h.Maps h.Tx.a_.dn h.Tx.aG h.Rx h.bN h.cj h.Filter.cW h.aj.bW h.aj.Table.aL h.aj.bj.Table h.cO h.ic h.bK h.b_ (n+1) (h.aY.length:Int) o=_
   rw[Bb]
   simp only[mE,aQ,b,b',ah,Ey,cond_true,cond_false]
def tA {α:Type} (bad:α) (k_:Bool→α) (aH:aB):α:=
 let z0:Bool:=ak (ak true (gH aH)) (sU (ca aH))
 let z1:Bool:=ak true (same (dr (ca aH)) (dr (ca aH)))
 let z2:Bool:= !(cV (dr (ca aH)) (dr (ca aH)))
 let z3:Bool:=decide ((cd (ca aH) 1).1<0)
 let z4:aB:=(⟨(⟨(cd (dr (ca aH)) 1).2.1⟩:aK),(cd (dr (ca aH)) 1).2.2.1,(⟨((dr (ca aH)).Tx).Ring,(⟨(((dr (ca aH)).Tx).a_).cP,(((dr (ca aH)).Tx).a_).bB,(((dr (ca aH)).Tx).a_).Count,(cd (dr (ca aH)) 1).2.2.2.1⟩:aJ),(cd (dr (ca aH)) 1).2.2.2.2.1,((dr (ca aH)).Tx).Next⟩:au),(cd (dr (ca aH)) 1).2.2.2.2.2.1,(cd (dr (ca aH)) 1).2.2.2.2.2.2.1,(cd (dr (ca aH)) 1).2.2.2.2.2.2.2.1,(cd (dr (ca aH)) 1).2.2.2.2.2.2.2.2.1,(⟨((dr (ca aH)).Filter).G3,((dr (ca aH)).Filter).bA,(cd (dr (ca aH)) 1).2.2.2.2.2.2.2.2.2.1⟩:aI),(⟨(cd (dr (ca aH)) 1).2.2.2.2.2.2.2.2.2.2.1,(⟨(cd (dr (ca aH)) 1).2.2.2.2.2.2.2.2.2.2.2.1⟩:ag),(⟨(((dr (ca aH)).aj).bj).Key,(cd (dr (ca aH)) 1).2.2.2.2.2.2.2.2.2.2.2.2.1⟩:aM)⟩:al),(cd (dr (ca aH)) 1).2.2.2.2.2.2.2.2.2.2.2.2.2.1,(dr (ca aH)).dp,(cd (dr (ca aH)) 1).2.2.2.2.2.2.2.2.2.2.2.2.2.2.1,(cd (dr (ca aH)) 1).2.2.2.2.2.2.2.2.2.2.2.2.2.2.2.1,(cd (dr (ca aH)) 1).2.2.2.2.2.2.2.2.2.2.2.2.2.2.2.2,(dr (ca aH)).Counters⟩:aB)
 let z5:Bool:=ak true (Bh z4 1)
 let z6:Int:=Lx z4 1
 let z7:Bool:=decide (z6<0)
 let z8:Bool:=z6 != ((cd (dr (ca aH)) 1).1)
 bif decide (qk aH 1048576<0) then k_ true
 else bif z0 then
   bif ak true (gH aH) then
    bif ak true (sU (ca aH)) then
     bif z1 then
      bif z2 then k_ false
      else bif ak (ak true (gH aH)) (same (ca aH) (ca aH)) then
        bif !(cV (ca aH) (ca aH)) then k_ false
        else bif ak true (vY (ca aH) 1) then
          bif RF z3 true z1 then
           bif bif z3 then true else z2 then k_ false
           else bif ak true (vY (dr (ca aH)) 1) then
             bif z5 then
              bif z7 then k_ false
              else bif z8 then k_ false
              else bif z0 then
                bif z1 then
                 bif z2 then k_ false
                 else bif z5 then
                   bif z7 then k_ false
                   else bif z8 then k_ false
                   else k_ true
                  else bad
                else bad
               else bad
             else bad
            else bad
          else bad
         else bad
       else bad
     else bad
    else bad
   else bad
  else bad
theorem MN {α:Type} (bad:α) (k_:Bool→α) (aH:aB) (aq2:WtL aB.ct aH.enc) (hok:fitL (aB.ct++([])) (aH.enc++([]))=true):tA bad k_ aH=k_ true:=by
 unfold tA
 by_cases c0:qk aH 1048576<0
 ·simp only[c0,decide_true,decide_false,cond_true,cond_false]
 have k0:=aiF aq2 (by omega) (by omega) (Int.not_lt.1 c0)
 have hs:=apq k0.2
 have hb:=apo aq2 (by omega) (by omega) (Int.not_lt.1 c0)
 have ht:sU aH=true:=by simp only[sU,hs,hb,Bool.and_self]
 have hs2:tx (dr aH)=true:=by
  unfold dr
  cases AW aH
  ·exact hs
  ·simp only[tx,sm,List.length_map,cond_true] at hs ⊢
   exact hs
 obtain⟨K,P0,P1,P2,P3,P4,P5,P6,P7,P8,P9,P10,P11,P12,P13,P14,P15,mh0,mh1,mh2,_,_⟩:=aoS hs
 obtain⟨J,Q0,Q1,Q2,Q3,Q4,Q5,Q6,Q7,Q8,Q9,Q10,Q11,Q12,Q13,Q14,Q15,nh0,nh1,nh2,nh3,nh4⟩:=aoS hs2
 have mh3:¬K<0:=by omega
 have nh5:¬J<0:=by omega
 simp only[c0,decide_false,cond_false,cond_true,ca,k0.2,ht,mh0,mh1,mh3,nh0,nh1,nh3,nh4,nh5,ah,ao,cY,cV,beq_self_eq_true,bne_self_eq_false,Bool.not_true,Ey]
end
end Go.Proofs.YthpmalpdnnbkgaaGreat.Pl
