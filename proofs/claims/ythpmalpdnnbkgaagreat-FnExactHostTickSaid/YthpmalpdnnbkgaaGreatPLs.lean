/- What functions of the program compute, in plain Lean, as the value machine runs them. Conditions: none. -/
import Derived.Test.YthpmalpdnnbkgaaGreatPre
import Derived.Test.YthpmalpdnnbkgaaGreatLem
set_option linter.unusedVariables false
set_option linter.unusedSimpArgs false
set_option maxRecDepth 100000
namespace Go.Proofs.YthpmalpdnnbkgaaGreat.Pl
open Vm
noncomputable section
structure cq where
 an2:Int
 amb:Int
 aiG:Int
 aiH:Bool
def cq.enc (x:cq):List DC:=[.int x.an2,.int x.amb,.int x.aiG,.bool x.aiH]
def cq.ae (r:List DC) (o:Nat):cq:=⟨rI r (o+0),rI r (o+1),rI r (o+2),rB r (o+3)⟩
def cq.ct:List CT:=[.int .i64,.int .i64,.int .i64,.bool]
theorem cq.eta {r:List DC} (h:WtL cq.ct r):(cq.ae r 0).enc=r:=(show (cq.ae r 0).enc=canonL cq.ct r 0 from by kernel_rfl).trans (canon_eq h)
theorem cq.aZ {r:List CT} {ds:List DC} (h:WtL (cq.ct++r) ds):∃(x:cq) (ds':List DC),ds=x.enc++ds'∧WtL cq.ct x.enc∧WtL r ds':=by
 obtain⟨d1,d2,rfl,h1,h2⟩:=wtl_split h
 exact⟨cq.ae d1 0,d2,by rw[cq.eta h1],by rw[cq.eta h1];exact h1,h2⟩
structure aK where
 dm:Rows
def aK.enc (x:aK):List DC:=[.sl x.dm]
def aK.ae (r:List DC) (o:Nat):aK:=⟨rR r (o+0)⟩
def aK.ct:List CT:=[.sl [.str]]
theorem aK.eta {r:List DC} (h:WtL aK.ct r):(aK.ae r 0).enc=r:=(show (aK.ae r 0).enc=canonL aK.ct r 0 from by kernel_rfl).trans (canon_eq h)
theorem aK.aZ {r:List CT} {ds:List DC} (h:WtL (aK.ct++r) ds):∃(x:aK) (ds':List DC),ds=x.enc++ds'∧WtL aK.ct x.enc∧WtL r ds':=by
 obtain⟨d1,d2,rfl,h1,h2⟩:=wtl_split h
 exact⟨aK.ae d1 0,d2,by rw[aK.eta h1],by rw[aK.eta h1];exact h1,h2⟩
theorem aK.aiI {x:aK} (h:WtL aK.ct x.enc):WtC (.sl [.str]) (.sl x.dm):=wtl_get 0 h rfl rfl
structure aJ where
 cP:Int
 bB:Int
 Count:Int
 dn:Rows
def aJ.enc (x:aJ):List DC:=[.int x.cP,.int x.bB,.int x.Count,.sl x.dn]
def aJ.ae (r:List DC) (o:Nat):aJ:=⟨rI r (o+0),rI r (o+1),rI r (o+2),rR r (o+3)⟩
def aJ.ct:List CT:=[.int .i64,.int .i64,.int .i64,.sl [.int .i64]]
theorem aJ.eta {r:List DC} (h:WtL aJ.ct r):(aJ.ae r 0).enc=r:=(show (aJ.ae r 0).enc=canonL aJ.ct r 0 from by kernel_rfl).trans (canon_eq h)
theorem aJ.aZ {r:List CT} {ds:List DC} (h:WtL (aJ.ct++r) ds):∃(x:aJ) (ds':List DC),ds=x.enc++ds'∧WtL aJ.ct x.enc∧WtL r ds':=by
 obtain⟨d1,d2,rfl,h1,h2⟩:=wtl_split h
 exact⟨aJ.ae d1 0,d2,by rw[aJ.eta h1],by rw[aJ.eta h1];exact h1,h2⟩
theorem aJ.aoT {x:aJ} (h:WtL aJ.ct x.enc):WtC (.int .i64) (.int x.cP):=wtl_get 0 h rfl rfl
theorem aJ.amc {x:aJ} (h:WtL aJ.ct x.enc):WtC (.int .i64) (.int x.bB):=wtl_get 1 h rfl rfl
theorem aJ.aiJ {x:aJ} (h:WtL aJ.ct x.enc):WtC (.int .i64) (.int x.Count):=wtl_get 2 h rfl rfl
theorem aJ.amd {x:aJ} (h:WtL aJ.ct x.enc):WtC (.sl [.int .i64]) (.sl x.dn):=wtl_get 3 h rfl rfl
structure df where
 ame:Int
 aL:Int
 DA:Rows
def df.enc (x:df):List DC:=[.int x.ame,.int x.aL,.sl x.DA]
def df.ae (r:List DC) (o:Nat):df:=⟨rI r (o+0),rI r (o+1),rR r (o+2)⟩
def df.ct:List CT:=[.int .i64,.int .i64,.sl [.int .i64]]
theorem df.eta {r:List DC} (h:WtL df.ct r):(df.ae r 0).enc=r:=(show (df.ae r 0).enc=canonL df.ct r 0 from by kernel_rfl).trans (canon_eq h)
theorem df.aZ {r:List CT} {ds:List DC} (h:WtL (df.ct++r) ds):∃(x:df) (ds':List DC),ds=x.enc++ds'∧WtL df.ct x.enc∧WtL r ds':=by
 obtain⟨d1,d2,rfl,h1,h2⟩:=wtl_split h
 exact⟨df.ae d1 0,d2,by rw[df.eta h1],by rw[df.eta h1];exact h1,h2⟩
theorem df.IQ {x:df} (h:WtL df.ct x.enc):WtC (.int .i64) (.int x.aL):=wtl_get 1 h rfl rfl
theorem df.aiD {x:df} (h:WtL df.ct x.enc):WtC (.sl [.int .i64]) (.sl x.DA):=wtl_get 2 h rfl rfl
structure cf where
 cP:Int
 bB:Int
 Head:Int
 fk:Int
def cf.enc (x:cf):List DC:=[.int x.cP,.int x.bB,.int x.Head,.int x.fk]
def cf.ae (r:List DC) (o:Nat):cf:=⟨rI r (o+0),rI r (o+1),rI r (o+2),rI r (o+3)⟩
def cf.ct:List CT:=[.int .i64,.int .i64,.int .i64,.int .i64]
theorem cf.eta {r:List DC} (h:WtL cf.ct r):(cf.ae r 0).enc=r:=(show (cf.ae r 0).enc=canonL cf.ct r 0 from by kernel_rfl).trans (canon_eq h)
theorem cf.aZ {r:List CT} {ds:List DC} (h:WtL (cf.ct++r) ds):∃(x:cf) (ds':List DC),ds=x.enc++ds'∧WtL cf.ct x.enc∧WtL r ds':=by
 obtain⟨d1,d2,rfl,h1,h2⟩:=wtl_split h
 exact⟨cf.ae d1 0,d2,by rw[cf.eta h1],by rw[cf.eta h1];exact h1,h2⟩
theorem cf.aoT {x:cf} (h:WtL cf.ct x.enc):WtC (.int .i64) (.int x.cP):=wtl_get 0 h rfl rfl
theorem cf.amc {x:cf} (h:WtL cf.ct x.enc):WtC (.int .i64) (.int x.bB):=wtl_get 1 h rfl rfl
theorem cf.aq6 {x:cf} (h:WtL cf.ct x.enc):WtC (.int .i64) (.int x.Head):=wtl_get 2 h rfl rfl
theorem cf.aq7 {x:cf} (h:WtL cf.ct x.enc):WtC (.int .i64) (.int x.fk):=wtl_get 3 h rfl rfl
structure au where
 Ring:cf
 a_:aJ
 aG:Rows
 Next:Int
def au.enc (x:au):List DC:=[.int x.Ring.cP,.int x.Ring.bB,.int x.Ring.Head,.int x.Ring.fk,.int x.a_.cP,.int x.a_.bB,.int x.a_.Count,.sl x.a_.dn,.sl x.aG,.int x.Next]
def au.ae (r:List DC) (o:Nat):au:=⟨cf.ae r (o+0),aJ.ae r (o+4),rR r (o+8),rI r (o+9)⟩
def au.ct:List CT:=[.int .i64,.int .i64,.int .i64,.int .i64,.int .i64,.int .i64,.int .i64,.sl [.int .i64],.sl [.int .i64,.int .i64,.sl [.int .i64]],.int .i64]
theorem au.eta {r:List DC} (h:WtL au.ct r):(au.ae r 0).enc=r:=(show (au.ae r 0).enc=canonL au.ct r 0 from by kernel_rfl).trans (canon_eq h)
theorem au.aZ {r:List CT} {ds:List DC} (h:WtL (au.ct++r) ds):∃(x:au) (ds':List DC),ds=x.enc++ds'∧WtL au.ct x.enc∧WtL r ds':=by
 obtain⟨d1,d2,rfl,h1,h2⟩:=wtl_split h
 exact⟨au.ae d1 0,d2,by rw[au.eta h1],by rw[au.eta h1];exact h1,h2⟩
theorem au.aq8 {x:au} (h:WtL au.ct x.enc):WtL cf.ct x.Ring.enc:=wtl_seg 0 4 h
theorem au.aoQ {x:au} (h:WtL au.ct x.enc):WtL aJ.ct x.a_.enc:=wtl_seg 4 4 h
theorem au.Ez {x:au} (h:WtL au.ct x.enc):WtC (.sl [.int .i64,.int .i64,.sl [.int .i64]]) (.sl x.aG):=wtl_get 8 h rfl rfl
theorem au.aq9 {x:au} (h:WtL au.ct x.enc):WtC (.int .i64) (.int x.Next):=wtl_get 9 h rfl rfl
structure bk where
 Kind:Int
 dt:Int
 du:Int
 Seq:Int
 Ack:Int
 Flags:Int
 GP:Int
 Body:Bytes
def bk.enc (x:bk):List DC:=[.int x.Kind,.int x.dt,.int x.du,.int x.Seq,.int x.Ack,.int x.Flags,.int x.GP,.str x.Body]
def bk.ae (r:List DC) (o:Nat):bk:=⟨rI r (o+0),rI r (o+1),rI r (o+2),rI r (o+3),rI r (o+4),rI r (o+5),rI r (o+6),rS r (o+7)⟩
def bk.ct:List CT:=[.int .i64,.int .i64,.int .i64,.int .i64,.int .i64,.int .i64,.int .i64,.str]
theorem bk.eta {r:List DC} (h:WtL bk.ct r):(bk.ae r 0).enc=r:=(show (bk.ae r 0).enc=canonL bk.ct r 0 from by kernel_rfl).trans (canon_eq h)
theorem bk.aZ {r:List CT} {ds:List DC} (h:WtL (bk.ct++r) ds):∃(x:bk) (ds':List DC),ds=x.enc++ds'∧WtL bk.ct x.enc∧WtL r ds':=by
 obtain⟨d1,d2,rfl,h1,h2⟩:=wtl_split h
 exact⟨bk.ae d1 0,d2,by rw[bk.eta h1],by rw[bk.eta h1];exact h1,h2⟩
theorem bk.afB {x:bk} (h:WtL bk.ct x.enc):WtC (.int .i64) (.int x.Kind):=wtl_get 0 h rfl rfl
theorem bk.UG {x:bk} (h:WtL bk.ct x.enc):WtC (.int .i64) (.int x.dt):=wtl_get 1 h rfl rfl
theorem bk.UH {x:bk} (h:WtL bk.ct x.enc):WtC (.int .i64) (.int x.du):=wtl_get 2 h rfl rfl
theorem bk.aq_ {x:bk} (h:WtL bk.ct x.enc):WtC .str (.str x.Body):=wtl_get 7 h rfl rfl
structure bG where
 I2:Int
 I3:Int
 MY:Int
 Tos:Int
 Id:Int
 Ttl:Int
 eb:Int
 fb:Int
 Bj:bk
def bG.enc (x:bG):List DC:=[.int x.I2,.int x.I3,.int x.MY,.int x.Tos,.int x.Id,.int x.Ttl,.int x.eb,.int x.fb,.int x.Bj.Kind,.int x.Bj.dt,.int x.Bj.du,.int x.Bj.Seq,.int x.Bj.Ack,.int x.Bj.Flags,.int x.Bj.GP,.str x.Bj.Body]
def bG.ae (r:List DC) (o:Nat):bG:=⟨rI r (o+0),rI r (o+1),rI r (o+2),rI r (o+3),rI r (o+4),rI r (o+5),rI r (o+6),rI r (o+7),bk.ae r (o+8)⟩
def bG.ct:List CT:=[.int .i64,.int .i64,.int .i64,.int .i64,.int .i64,.int .i64,.int .i64,.int .i64,.int .i64,.int .i64,.int .i64,.int .i64,.int .i64,.int .i64,.int .i64,.str]
theorem bG.eta {r:List DC} (h:WtL bG.ct r):(bG.ae r 0).enc=r:=(show (bG.ae r 0).enc=canonL bG.ct r 0 from by kernel_rfl).trans (canon_eq h)
theorem bG.aZ {r:List CT} {ds:List DC} (h:WtL (bG.ct++r) ds):∃(x:bG) (ds':List DC),ds=x.enc++ds'∧WtL bG.ct x.enc∧WtL r ds':=by
 obtain⟨d1,d2,rfl,h1,h2⟩:=wtl_split h
 exact⟨bG.ae d1 0,d2,by rw[bG.eta h1],by rw[bG.eta h1];exact h1,h2⟩
theorem bG.ara {x:bG} (h:WtL bG.ct x.enc):WtC (.int .i64) (.int x.MY):=wtl_get 2 h rfl rfl
theorem bG.Xy {x:bG} (h:WtL bG.ct x.enc):WtC (.int .i64) (.int x.eb):=wtl_get 6 h rfl rfl
theorem bG.aiz {x:bG} (h:WtL bG.ct x.enc):WtC (.int .i64) (.int x.fb):=wtl_get 7 h rfl rfl
theorem bG.asc {x:bG} (h:WtL bG.ct x.enc):WtL bk.ct x.Bj.enc:=wtl_seg 8 8 h
structure dh where
 cN:bG
 bB:Int
 Count:Int
def dh.enc (x:dh):List DC:=[.int x.cN.I2,.int x.cN.I3,.int x.cN.MY,.int x.cN.Tos,.int x.cN.Id,.int x.cN.Ttl,.int x.cN.eb,.int x.cN.fb,.int x.cN.Bj.Kind,.int x.cN.Bj.dt,.int x.cN.Bj.du,.int x.cN.Bj.Seq,.int x.cN.Bj.Ack,.int x.cN.Bj.Flags,.int x.cN.Bj.GP,.str x.cN.Bj.Body,.int x.bB,.int x.Count]
def dh.ae (r:List DC) (o:Nat):dh:=⟨bG.ae r (o+0),rI r (o+16),rI r (o+17)⟩
def dh.ct:List CT:=[.int .i64,.int .i64,.int .i64,.int .i64,.int .i64,.int .i64,.int .i64,.int .i64,.int .i64,.int .i64,.int .i64,.int .i64,.int .i64,.int .i64,.int .i64,.str,.int .i64,.int .i64]
theorem dh.eta {r:List DC} (h:WtL dh.ct r):(dh.ae r 0).enc=r:=(show (dh.ae r 0).enc=canonL dh.ct r 0 from by kernel_rfl).trans (canon_eq h)
theorem dh.aZ {r:List CT} {ds:List DC} (h:WtL (dh.ct++r) ds):∃(x:dh) (ds':List DC),ds=x.enc++ds'∧WtL dh.ct x.enc∧WtL r ds':=by
 obtain⟨d1,d2,rfl,h1,h2⟩:=wtl_split h
 exact⟨dh.ae d1 0,d2,by rw[dh.eta h1],by rw[dh.eta h1];exact h1,h2⟩
theorem dh.apr {x:dh} (h:WtL dh.ct x.enc):WtL bG.ct x.cN.enc:=wtl_seg 0 16 h
theorem dh.amc {x:dh} (h:WtL dh.ct x.enc):WtC (.int .i64) (.int x.bB):=wtl_get 16 h rfl rfl
theorem dh.aiJ {x:dh} (h:WtL dh.ct x.enc):WtC (.int .i64) (.int x.Count):=wtl_get 17 h rfl rfl
structure ay where
 cP:Int
 bB:Int
 Count:Int
def ay.enc (x:ay):List DC:=[.int x.cP,.int x.bB,.int x.Count]
def ay.ae (r:List DC) (o:Nat):ay:=⟨rI r (o+0),rI r (o+1),rI r (o+2)⟩
def ay.ct:List CT:=[.int .i64,.int .i64,.int .i64]
theorem ay.eta {r:List DC} (h:WtL ay.ct r):(ay.ae r 0).enc=r:=(show (ay.ae r 0).enc=canonL ay.ct r 0 from by kernel_rfl).trans (canon_eq h)
theorem ay.aZ {r:List CT} {ds:List DC} (h:WtL (ay.ct++r) ds):∃(x:ay) (ds':List DC),ds=x.enc++ds'∧WtL ay.ct x.enc∧WtL r ds':=by
 obtain⟨d1,d2,rfl,h1,h2⟩:=wtl_split h
 exact⟨ay.ae d1 0,d2,by rw[ay.eta h1],by rw[ay.eta h1];exact h1,h2⟩
theorem ay.aoT {x:ay} (h:WtL ay.ct x.enc):WtC (.int .i64) (.int x.cP):=wtl_get 0 h rfl rfl
theorem ay.amc {x:ay} (h:WtL ay.ct x.enc):WtC (.int .i64) (.int x.bB):=wtl_get 1 h rfl rfl
theorem ay.aiJ {x:ay} (h:WtL ay.ct x.enc):WtC (.int .i64) (.int x.Count):=wtl_get 2 h rfl rfl
structure aS where
 Ring:cf
 Device:ay
 Driver:ay
 fh:dh
 Qq:Bool
 Qr:Int
def aS.enc (x:aS):List DC:=[.int x.Ring.cP,.int x.Ring.bB,.int x.Ring.Head,.int x.Ring.fk,.int x.Device.cP,.int x.Device.bB,.int x.Device.Count,.int x.Driver.cP,.int x.Driver.bB,.int x.Driver.Count,.int x.fh.cN.I2,.int x.fh.cN.I3,.int x.fh.cN.MY,.int x.fh.cN.Tos,.int x.fh.cN.Id,.int x.fh.cN.Ttl,.int x.fh.cN.eb,.int x.fh.cN.fb,.int x.fh.cN.Bj.Kind,.int x.fh.cN.Bj.dt,.int x.fh.cN.Bj.du,.int x.fh.cN.Bj.Seq,.int x.fh.cN.Bj.Ack,.int x.fh.cN.Bj.Flags,.int x.fh.cN.Bj.GP,.str x.fh.cN.Bj.Body,.int x.fh.bB,.int x.fh.Count,.bool x.Qq,.int x.Qr]
def aS.ae (r:List DC) (o:Nat):aS:=⟨cf.ae r (o+0),ay.ae r (o+4),ay.ae r (o+7),dh.ae r (o+10),rB r (o+28),rI r (o+29)⟩
def aS.ct:List CT:=[.int .i64,.int .i64,.int .i64,.int .i64,.int .i64,.int .i64,.int .i64,.int .i64,.int .i64,.int .i64,.int .i64,.int .i64,.int .i64,.int .i64,.int .i64,.int .i64,.int .i64,.int .i64,.int .i64,.int .i64,.int .i64,.int .i64,.int .i64,.int .i64,.int .i64,.str,.int .i64,.int .i64,.bool,.int .i64]
theorem aS.eta {r:List DC} (h:WtL aS.ct r):(aS.ae r 0).enc=r:=(show (aS.ae r 0).enc=canonL aS.ct r 0 from by kernel_rfl).trans (canon_eq h)
theorem aS.aZ {r:List CT} {ds:List DC} (h:WtL (aS.ct++r) ds):∃(x:aS) (ds':List DC),ds=x.enc++ds'∧WtL aS.ct x.enc∧WtL r ds':=by
 obtain⟨d1,d2,rfl,h1,h2⟩:=wtl_split h
 exact⟨aS.ae d1 0,d2,by rw[aS.eta h1],by rw[aS.eta h1];exact h1,h2⟩
theorem aS.aq8 {x:aS} (h:WtL aS.ct x.enc):WtL cf.ct x.Ring.enc:=wtl_seg 0 4 h
theorem aS.arb {x:aS} (h:WtL aS.ct x.enc):WtL dh.ct x.fh.enc:=wtl_seg 10 18 h
structure aI where
 G3:Int
 bA:Bool
 cW:Rows
def aI.enc (x:aI):List DC:=[.int x.G3,.bool x.bA,.sl x.cW]
def aI.ae (r:List DC) (o:Nat):aI:=⟨rI r (o+0),rB r (o+1),rR r (o+2)⟩
def aI.ct:List CT:=[.int .i64,.bool,.sl [.int .i64]]
theorem aI.eta {r:List DC} (h:WtL aI.ct r):(aI.ae r 0).enc=r:=(show (aI.ae r 0).enc=canonL aI.ct r 0 from by kernel_rfl).trans (canon_eq h)
theorem aI.aZ {r:List CT} {ds:List DC} (h:WtL (aI.ct++r) ds):∃(x:aI) (ds':List DC),ds=x.enc++ds'∧WtL aI.ct x.enc∧WtL r ds':=by
 obtain⟨d1,d2,rfl,h1,h2⟩:=wtl_split h
 exact⟨aI.ae d1 0,d2,by rw[aI.eta h1],by rw[aI.eta h1];exact h1,h2⟩
theorem aI.aiy {x:aI} (h:WtL aI.ct x.enc):WtC (.sl [.int .i64]) (.sl x.cW):=wtl_get 2 h rfl rfl
structure ag where
 aL:Rows
def ag.enc (x:ag):List DC:=[.sl x.aL]
def ag.ae (r:List DC) (o:Nat):ag:=⟨rR r (o+0)⟩
def ag.ct:List CT:=[.sl [.int .i64,.int .i64,.int .i64,.int .i64,.int .i64,.int .i64,.int .i64]]
theorem ag.eta {r:List DC} (h:WtL ag.ct r):(ag.ae r 0).enc=r:=(show (ag.ae r 0).enc=canonL ag.ct r 0 from by kernel_rfl).trans (canon_eq h)
theorem ag.aZ {r:List CT} {ds:List DC} (h:WtL (ag.ct++r) ds):∃(x:ag) (ds':List DC),ds=x.enc++ds'∧WtL ag.ct x.enc∧WtL r ds':=by
 obtain⟨d1,d2,rfl,h1,h2⟩:=wtl_split h
 exact⟨ag.ae d1 0,d2,by rw[ag.eta h1],by rw[ag.eta h1];exact h1,h2⟩
theorem ag.IQ {x:ag} (h:WtL ag.ct x.enc):WtC (.sl [.int .i64,.int .i64,.int .i64,.int .i64,.int .i64,.int .i64,.int .i64]) (.sl x.aL):=wtl_get 0 h rfl rfl
structure aM where
 Key:Bytes
 Table:Rows
def aM.enc (x:aM):List DC:=[.str x.Key,.sl x.Table]
def aM.ae (r:List DC) (o:Nat):aM:=⟨rS r (o+0),rR r (o+1)⟩
def aM.ct:List CT:=[.str,.sl [.int .i64]]
theorem aM.eta {r:List DC} (h:WtL aM.ct r):(aM.ae r 0).enc=r:=(show (aM.ae r 0).enc=canonL aM.ct r 0 from by kernel_rfl).trans (canon_eq h)
theorem aM.aZ {r:List CT} {ds:List DC} (h:WtL (aM.ct++r) ds):∃(x:aM) (ds':List DC),ds=x.enc++ds'∧WtL aM.ct x.enc∧WtL r ds':=by
 obtain⟨d1,d2,rfl,h1,h2⟩:=wtl_split h
 exact⟨aM.ae d1 0,d2,by rw[aM.eta h1],by rw[aM.eta h1];exact h1,h2⟩
theorem aM.asd {x:aM} (h:WtL aM.ct x.enc):WtC .str (.str x.Key):=wtl_get 0 h rfl rfl
theorem aM.IW {x:aM} (h:WtL aM.ct x.enc):WtC (.sl [.int .i64]) (.sl x.Table):=wtl_get 1 h rfl rfl
structure al where
 bW:Rows
 Table:ag
 bj:aM
def al.enc (x:al):List DC:=[.sl x.bW,.sl x.Table.aL,.str x.bj.Key,.sl x.bj.Table]
def al.ae (r:List DC) (o:Nat):al:=⟨rR r (o+0),ag.ae r (o+1),aM.ae r (o+2)⟩
def al.ct:List CT:=[.sl [.int .i64,.int .i64,.int .i64,.int .i64,.int .i64,.int .i64,.int .i64,.int .i64,.int .i64],.sl [.int .i64,.int .i64,.int .i64,.int .i64,.int .i64,.int .i64,.int .i64],.str,.sl [.int .i64]]
theorem al.eta {r:List DC} (h:WtL al.ct r):(al.ae r 0).enc=r:=(show (al.ae r 0).enc=canonL al.ct r 0 from by kernel_rfl).trans (canon_eq h)
theorem al.aZ {r:List CT} {ds:List DC} (h:WtL (al.ct++r) ds):∃(x:al) (ds':List DC),ds=x.enc++ds'∧WtL al.ct x.enc∧WtL r ds':=by
 obtain⟨d1,d2,rfl,h1,h2⟩:=wtl_split h
 exact⟨al.ae d1 0,d2,by rw[al.eta h1],by rw[al.eta h1];exact h1,h2⟩
theorem al.aiB {x:al} (h:WtL al.ct x.enc):WtC (.sl [.int .i64,.int .i64,.int .i64,.int .i64,.int .i64,.int .i64,.int .i64,.int .i64,.int .i64]) (.sl x.bW):=wtl_get 0 h rfl rfl
theorem al.IW {x:al} (h:WtL al.ct x.enc):WtL ag.ct x.Table.enc:=wtl_seg 1 1 h
theorem al.aps {x:al} (h:WtL al.ct x.enc):WtL aM.ct x.bj.enc:=wtl_seg 2 2 h
structure bh where
 Kind:Int
 eb:Int
 fb:Int
 dt:Int
 du:Int
def bh.enc (x:bh):List DC:=[.int x.Kind,.int x.eb,.int x.fb,.int x.dt,.int x.du]
def bh.ae (r:List DC) (o:Nat):bh:=⟨rI r (o+0),rI r (o+1),rI r (o+2),rI r (o+3),rI r (o+4)⟩
def bh.ct:List CT:=[.int .i64,.int .i64,.int .i64,.int .i64,.int .i64]
theorem bh.eta {r:List DC} (h:WtL bh.ct r):(bh.ae r 0).enc=r:=(show (bh.ae r 0).enc=canonL bh.ct r 0 from by kernel_rfl).trans (canon_eq h)
theorem bh.aZ {r:List CT} {ds:List DC} (h:WtL (bh.ct++r) ds):∃(x:bh) (ds':List DC),ds=x.enc++ds'∧WtL bh.ct x.enc∧WtL r ds':=by
 obtain⟨d1,d2,rfl,h1,h2⟩:=wtl_split h
 exact⟨bh.ae d1 0,d2,by rw[bh.eta h1],by rw[bh.eta h1];exact h1,h2⟩
theorem bh.afB {x:bh} (h:WtL bh.ct x.enc):WtC (.int .i64) (.int x.Kind):=wtl_get 0 h rfl rfl
theorem bh.Xy {x:bh} (h:WtL bh.ct x.enc):WtC (.int .i64) (.int x.eb):=wtl_get 1 h rfl rfl
theorem bh.aiz {x:bh} (h:WtL bh.ct x.enc):WtC (.int .i64) (.int x.fb):=wtl_get 2 h rfl rfl
theorem bh.UG {x:bh} (h:WtL bh.ct x.enc):WtC (.int .i64) (.int x.dt):=wtl_get 3 h rfl rfl
theorem bh.UH {x:bh} (h:WtL bh.ct x.enc):WtC (.int .i64) (.int x.du):=wtl_get 4 h rfl rfl
structure bM where
 I4:bh
 Next:Int
 Data:Bytes
 arc:Bool
def bM.enc (x:bM):List DC:=[.int x.I4.Kind,.int x.I4.eb,.int x.I4.fb,.int x.I4.dt,.int x.I4.du,.int x.Next,.str x.Data,.bool x.arc]
def bM.ae (r:List DC) (o:Nat):bM:=⟨bh.ae r (o+0),rI r (o+5),rS r (o+6),rB r (o+7)⟩
def bM.ct:List CT:=[.int .i64,.int .i64,.int .i64,.int .i64,.int .i64,.int .i64,.str,.bool]
theorem bM.eta {r:List DC} (h:WtL bM.ct r):(bM.ae r 0).enc=r:=(show (bM.ae r 0).enc=canonL bM.ct r 0 from by kernel_rfl).trans (canon_eq h)
theorem bM.aZ {r:List CT} {ds:List DC} (h:WtL (bM.ct++r) ds):∃(x:bM) (ds':List DC),ds=x.enc++ds'∧WtL bM.ct x.enc∧WtL r ds':=by
 obtain⟨d1,d2,rfl,h1,h2⟩:=wtl_split h
 exact⟨bM.ae d1 0,d2,by rw[bM.eta h1],by rw[bM.eta h1];exact h1,h2⟩
theorem bM.ard {x:bM} (h:WtL bM.ct x.enc):WtL bh.ct x.I4.enc:=wtl_seg 0 5 h
theorem bM.aq9 {x:bM} (h:WtL bM.ct x.enc):WtC (.int .i64) (.int x.Next):=wtl_get 5 h rfl rfl
theorem bM.arf {x:bM} (h:WtL bM.ct x.enc):WtC .str (.str x.Data):=wtl_get 6 h rfl rfl
structure bC where
 Frames:Int
 KN:Int
 di:Int
 dE:Int
 fC:Int
def bC.enc (x:bC):List DC:=[.int x.Frames,.int x.KN,.int x.di,.int x.dE,.int x.fC]
def bC.ae (r:List DC) (o:Nat):bC:=⟨rI r (o+0),rI r (o+1),rI r (o+2),rI r (o+3),rI r (o+4)⟩
def bC.ct:List CT:=[.int .i64,.int .i64,.int .i64,.int .i64,.int .i64]
theorem bC.eta {r:List DC} (h:WtL bC.ct r):(bC.ae r 0).enc=r:=(show (bC.ae r 0).enc=canonL bC.ct r 0 from by kernel_rfl).trans (canon_eq h)
theorem bC.aZ {r:List CT} {ds:List DC} (h:WtL (bC.ct++r) ds):∃(x:bC) (ds':List DC),ds=x.enc++ds'∧WtL bC.ct x.enc∧WtL r ds':=by
 obtain⟨d1,d2,rfl,h1,h2⟩:=wtl_split h
 exact⟨bC.ae d1 0,d2,by rw[bC.eta h1],by rw[bC.eta h1];exact h1,h2⟩
structure aB where
 bV:aK
 Maps:Rows
 Tx:au
 Rx:Rows
 bN:Rows
 aY:Rows
 cj:Rows
 Filter:aI
 aj:al
 cO:Rows
 dp:Bool
 ic:Rows
 bK:Rows
 b_:Rows
 Counters:bC
def aB.enc (x:aB):List DC:=[.sl x.bV.dm,.sl x.Maps,.int x.Tx.Ring.cP,.int x.Tx.Ring.bB,.int x.Tx.Ring.Head,.int x.Tx.Ring.fk,.int x.Tx.a_.cP,.int x.Tx.a_.bB,.int x.Tx.a_.Count,.sl x.Tx.a_.dn,.sl x.Tx.aG,.int x.Tx.Next,.sl x.Rx,.sl x.bN,.sl x.aY,.sl x.cj,.int x.Filter.G3,.bool x.Filter.bA,.sl x.Filter.cW,.sl x.aj.bW,.sl x.aj.Table.aL,.str x.aj.bj.Key,.sl x.aj.bj.Table,.sl x.cO,.bool x.dp,.sl x.ic,.sl x.bK,.sl x.b_,.int x.Counters.Frames,.int x.Counters.KN,.int x.Counters.di,.int x.Counters.dE,.int x.Counters.fC]
def aB.ae (r:List DC) (o:Nat):aB:=⟨aK.ae r (o+0),rR r (o+1),au.ae r (o+2),rR r (o+12),rR r (o+13),rR r (o+14),rR r (o+15),aI.ae r (o+16),al.ae r (o+19),rR r (o+23),rB r (o+24),rR r (o+25),rR r (o+26),rR r (o+27),bC.ae r (o+28)⟩
def aB.ct:List CT:=[.sl [.str],.sl [.int .i64,.int .i64,.int .i64,.bool],.int .i64,.int .i64,.int .i64,.int .i64,.int .i64,.int .i64,.int .i64,.sl [.int .i64],.sl [.int .i64,.int .i64,.sl [.int .i64]],.int .i64,.sl [.int .i64,.int .i64,.int .i64,.int .i64,.int .i64,.int .i64,.int .i64,.int .i64,.int .i64,.int .i64,.int .i64,.int .i64,.int .i64,.int .i64,.int .i64,.int .i64,.int .i64,.int .i64,.int .i64,.int .i64,.int .i64,.int .i64,.int .i64,.int .i64,.int .i64,.str,.int .i64,.int .i64,.bool,.int .i64],.sl [.int .i64,.int .i64,.int .i64,.sl [.int .i64]],.sl [.int .i64,.int .i64,.int .i64,.int .i64,.bool,.bool],.sl [.bool],.int .i64,.bool,.sl [.int .i64],.sl [.int .i64,.int .i64,.int .i64,.int .i64,.int .i64,.int .i64,.int .i64,.int .i64,.int .i64],.sl [.int .i64,.int .i64,.int .i64,.int .i64,.int .i64,.int .i64,.int .i64],.str,.sl [.int .i64],.sl [.int .i64,.int .i64,.int .i64,.int .i64,.int .i64,.int .i64,.str,.bool],.bool,.sl [.str],.sl [.int .i64],.sl [.int .i64],.int .i64,.int .i64,.int .i64,.int .i64,.int .i64]
theorem aB.eta {r:List DC} (h:WtL aB.ct r):(aB.ae r 0).enc=r:=(show (aB.ae r 0).enc=canonL aB.ct r 0 from by kernel_rfl).trans (canon_eq h)
theorem aB.aZ {r:List CT} {ds:List DC} (h:WtL (aB.ct++r) ds):∃(x:aB) (ds':List DC),ds=x.enc++ds'∧WtL aB.ct x.enc∧WtL r ds':=by
 obtain⟨d1,d2,rfl,h1,h2⟩:=wtl_split h
 exact⟨aB.ae d1 0,d2,by rw[aB.eta h1],by rw[aB.eta h1];exact h1,h2⟩
theorem aB.alw {x:aB} (h:WtL aB.ct x.enc):WtL aK.ct x.bV.enc:=wtl_seg 0 1 h
theorem aB.aoR {x:aB} (h:WtL aB.ct x.enc):WtC (.sl [.int .i64,.int .i64,.int .i64,.bool]) (.sl x.Maps):=wtl_get 1 h rfl rfl
theorem aB.arK {x:aB} (h:WtL aB.ct x.enc):WtL au.ct x.Tx.enc:=wtl_seg 2 10 h
theorem aB.asT {x:aB} (h:WtL aB.ct x.enc):WtC (.sl [.int .i64,.int .i64,.int .i64,.int .i64,.int .i64,.int .i64,.int .i64,.int .i64,.int .i64,.int .i64,.int .i64,.int .i64,.int .i64,.int .i64,.int .i64,.int .i64,.int .i64,.int .i64,.int .i64,.int .i64,.int .i64,.int .i64,.int .i64,.int .i64,.int .i64,.str,.int .i64,.int .i64,.bool,.int .i64]) (.sl x.Rx):=wtl_get 12 h rfl rfl
theorem aB.aiE {x:aB} (h:WtL aB.ct x.enc):WtC (.sl [.int .i64,.int .i64,.int .i64,.sl [.int .i64]]) (.sl x.bN):=wtl_get 13 h rfl rfl
theorem aB.UL {x:aB} (h:WtL aB.ct x.enc):WtC (.sl [.int .i64,.int .i64,.int .i64,.int .i64,.bool,.bool]) (.sl x.aY):=wtl_get 14 h rfl rfl
theorem aB.an3 {x:aB} (h:WtL aB.ct x.enc):WtC (.sl [.bool]) (.sl x.cj):=wtl_get 15 h rfl rfl
theorem aB.apt {x:aB} (h:WtL aB.ct x.enc):WtL aI.ct x.Filter.enc:=wtl_seg 16 3 h
theorem aB.am_ {x:aB} (h:WtL aB.ct x.enc):WtL al.ct x.aj.enc:=wtl_seg 19 4 h
theorem aB.an4 {x:aB} (h:WtL aB.ct x.enc):WtC (.sl [.int .i64,.int .i64,.int .i64,.int .i64,.int .i64,.int .i64,.str,.bool]) (.sl x.cO):=wtl_get 23 h rfl rfl
theorem aB.arh {x:aB} (h:WtL aB.ct x.enc):WtC (.sl [.str]) (.sl x.ic):=wtl_get 25 h rfl rfl
theorem aB.amf {x:aB} (h:WtL aB.ct x.enc):WtC (.sl [.int .i64]) (.sl x.bK):=wtl_get 26 h rfl rfl
theorem aB.ana {x:aB} (h:WtL aB.ct x.enc):WtC (.sl [.int .i64]) (.sl x.b_):=wtl_get 27 h rfl rfl
structure cZ where
 Priority:Int
 Kind:Int
 eb:Int
 XA:Int
 EA:Int
 I5:Int
 MY:Int
 Action:Int
 Queue:Int
def cZ.enc (x:cZ):List DC:=[.int x.Priority,.int x.Kind,.int x.eb,.int x.XA,.int x.EA,.int x.I5,.int x.MY,.int x.Action,.int x.Queue]
def cZ.ae (r:List DC) (o:Nat):cZ:=⟨rI r (o+0),rI r (o+1),rI r (o+2),rI r (o+3),rI r (o+4),rI r (o+5),rI r (o+6),rI r (o+7),rI r (o+8)⟩
def cZ.ct:List CT:=[.int .i64,.int .i64,.int .i64,.int .i64,.int .i64,.int .i64,.int .i64,.int .i64,.int .i64]
theorem cZ.eta {r:List DC} (h:WtL cZ.ct r):(cZ.ae r 0).enc=r:=(show (cZ.ae r 0).enc=canonL cZ.ct r 0 from by kernel_rfl).trans (canon_eq h)
theorem cZ.aZ {r:List CT} {ds:List DC} (h:WtL (cZ.ct++r) ds):∃(x:cZ) (ds':List DC),ds=x.enc++ds'∧WtL cZ.ct x.enc∧WtL r ds':=by
 obtain⟨d1,d2,rfl,h1,h2⟩:=wtl_split h
 exact⟨cZ.ae d1 0,d2,by rw[cZ.eta h1],by rw[cZ.eta h1];exact h1,h2⟩
theorem cZ.afB {x:cZ} (h:WtL cZ.ct x.enc):WtC (.int .i64) (.int x.Kind):=wtl_get 1 h rfl rfl
theorem cZ.Xy {x:cZ} (h:WtL cZ.ct x.enc):WtC (.int .i64) (.int x.eb):=wtl_get 2 h rfl rfl
theorem cZ.ara {x:cZ} (h:WtL cZ.ct x.enc):WtC (.int .i64) (.int x.MY):=wtl_get 6 h rfl rfl
theorem cZ.apS {x:cZ} (h:WtL cZ.ct x.enc):WtC (.int .i64) (.int x.Queue):=wtl_get 8 h rfl rfl
structure dW where
 State:Int
 I4:bh
 Queue:Int
def dW.enc (x:dW):List DC:=[.int x.State,.int x.I4.Kind,.int x.I4.eb,.int x.I4.fb,.int x.I4.dt,.int x.I4.du,.int x.Queue]
def dW.ae (r:List DC) (o:Nat):dW:=⟨rI r (o+0),bh.ae r (o+1),rI r (o+6)⟩
def dW.ct:List CT:=[.int .i64,.int .i64,.int .i64,.int .i64,.int .i64,.int .i64,.int .i64]
theorem dW.eta {r:List DC} (h:WtL dW.ct r):(dW.ae r 0).enc=r:=(show (dW.ae r 0).enc=canonL dW.ct r 0 from by kernel_rfl).trans (canon_eq h)
theorem dW.aZ {r:List CT} {ds:List DC} (h:WtL (dW.ct++r) ds):∃(x:dW) (ds':List DC),ds=x.enc++ds'∧WtL dW.ct x.enc∧WtL r ds':=by
 obtain⟨d1,d2,rfl,h1,h2⟩:=wtl_split h
 exact⟨dW.ae d1 0,d2,by rw[dW.eta h1],by rw[dW.eta h1];exact h1,h2⟩
theorem dW.ard {x:dW} (h:WtL dW.ct x.enc):WtL bh.ct x.I4.enc:=wtl_seg 1 5 h
theorem dW.apS {x:dW} (h:WtL dW.ct x.enc):WtC (.int .i64) (.int x.Queue):=wtl_get 6 h rfl rfl
structure aC where
 sM:Int
 yE:Int
 Count:Int
 Time:Int
 Dz:Bool
 Ba:Bool
def aC.enc (x:aC):List DC:=[.int x.sM,.int x.yE,.int x.Count,.int x.Time,.bool x.Dz,.bool x.Ba]
def aC.ae (r:List DC) (o:Nat):aC:=⟨rI r (o+0),rI r (o+1),rI r (o+2),rI r (o+3),rB r (o+4),rB r (o+5)⟩
def aC.ct:List CT:=[.int .i64,.int .i64,.int .i64,.int .i64,.bool,.bool]
theorem aC.eta {r:List DC} (h:WtL aC.ct r):(aC.ae r 0).enc=r:=(show (aC.ae r 0).enc=canonL aC.ct r 0 from by kernel_rfl).trans (canon_eq h)
theorem aC.aZ {r:List CT} {ds:List DC} (h:WtL (aC.ct++r) ds):∃(x:aC) (ds':List DC),ds=x.enc++ds'∧WtL aC.ct x.enc∧WtL r ds':=by
 obtain⟨d1,d2,rfl,h1,h2⟩:=wtl_split h
 exact⟨aC.ae d1 0,d2,by rw[aC.eta h1],by rw[aC.eta h1];exact h1,h2⟩
theorem aC.aiJ {x:aC} (h:WtL aC.ct x.enc):WtC (.int .i64) (.int x.Count):=wtl_get 2 h rfl rfl
def LC {α:Type} (k_:cq→α) (a:cq):α:=
 k_ a
theorem Zh {α:Type} (k_:cq→α) (a:cq) (bT:WtL cq.ct a.enc):LC k_ a=k_ (ca a):=by
 rfl
def nG {α:Type} (bad:α) (k_:Rows→α) (a:Rows) (bZ:Int→Rows→α) (i:Int) (az:Rows):α:=
 bif decide (i<len a) then
  bif ak (ak (ak true (idx i a)) (idx i az)) (inl (Int.toNat i) az) then
   bZ (w64 (i+1)) (List.set az (Int.toNat i) (aD (nth az (Int.toNat i)) 0 (cq.enc (ca (cq.ae (nth a (Int.toNat i)) 0)))))
  else bad
 else k_ az
def iM {α:Type} (bad:α) (k_:Rows→α) (N:Nat) (a:Rows) (m_:Nat):Int→Rows→α:=
 Nat.rec (motive:=fun _=>Int→Rows→α) (fun _ _=>bad) (fun _ bZ=>nG bad k_ a bZ) m_
theorem FP {α:Type} (bad:α) (k_:Rows→α) (N:Nat) (a:Rows) (m_:Nat) (i:Int) (az:Rows):iM bad k_ N a (m_+1) i az=nG bad k_ a (iM bad k_ N a m_) i az:=rfl
def vj {α:Type} (bad:α) (k_:Rows→α) (l0:Int→Rows→α) (a:Rows):α:=
 bif ak true (makeOk 32 (len a) (len a)) then
  l0 0 (List.replicate (Int.toNat (len a)) ([.int 0,.int 0,.int 0,.bool false]:List DC))
 else bad
def vi {α:Type} (bad:α) (k_:Rows→α) (N:Nat) (a:Rows):α:=vj bad k_ (iM bad k_ N a N) a
theorem Wl {α:Type} (bad:α) (k_:Rows→α) (a:Rows) (bT:WtC (.sl [.int .i64,.int .i64,.int .i64,.bool]) (.sl a)) (hok:sm a=true):∃N,vi bad k_ N a=k_ (ca a):=by
 obtain⟨hl,hw⟩:=cU bT
 have hsm:=hok
 refine⟨a.length+1, ?_⟩
 unfold vi vj
 have e0:Int.toNat (len a)=a.length:=by simp [len]
 simp only[Dr hsm (show 32≤8388608 by omega),ah,cond_true,e0]
 refine wO a (iM bad k_ (a.length+1) a) k_ [.int 0,.int 0,.int 0,.bool false] (fun o r=>aD o 0 (cq.enc (ca (cq.ae r 0)))) ?_ ?_ ?_
 ·intro n i out h ho
  rw[FP]
  simp only[nG,ch h,bw h,Dt ho h,eI (show i<out.length by omega),bu h hl,Int.toNat_natCast,Bool.and_true,ah,ao,cond_true]
  try rfl
 ·intro n out ho
  rw[FP]
  simp only[nG,aQ,cond_false]
 ·intro r hr
  refine (fw ?_).trans ?_
  ·rfl
  ·exact cq.eta (hw r hr)
def qg {α:Type} (bad:α) (k_:Int→α) (a:Rows) (bZ:Int→Int→α) (bH:Int) (i:Int):α:=
 let z0:Int:=w64 (bH - (len (rS (nth a (Int.toNat i)) 0)))
 bif decide (i<len a) then
  bif ak true (idx i a) then
   bif decide (z0<0) then k_ (-1)
   else bZ z0 (w64 (i+1))
  else bad
 else k_ bH
def kp {α:Type} (bad:α) (k_:Int→α) (N:Nat) (a:Rows) (m_:Nat):Int→Int→α:=
 Nat.rec (motive:=fun _=>Int→Int→α) (fun _ _=>bad) (fun _ bZ=>qg bad k_ a bZ) m_
theorem Hg {α:Type} (bad:α) (k_:Int→α) (N:Nat) (a:Rows) (m_:Nat) (bH:Int) (i:Int):kp bad k_ N a (m_+1) bH i=qg bad k_ a (kp bad k_ N a m_) bH i:=rfl
def xM {α:Type} (bad:α) (k_:Int→α) (l0:Int→Int→α) (a:Rows) (left:Int):α:=
 bif decide (w64 (left - (len a))<0) then k_ (-1)
 else l0 (w64 (left - (len a))) 0
def xL {α:Type} (bad:α) (k_:Int→α) (N:Nat) (a:Rows) (left:Int):α:=xM bad k_ (kp bad k_ N a N) a left
def ew (a:Rows) (left:Int):Int:=Kf (fun r l=>w64 (l - len (rS r 0))) a left
theorem Zk {α:Type} (bad:α) (k_:Int→α) (a:Rows) (left:Int) (bT:WtC (.sl [.str]) (.sl a)) (dS:WtC (.int .i64) (.int left)):∃N,xL bad k_ N a left=k_ (ew a left):=by
 obtain⟨hl,_⟩:=cU bT
 refine⟨a.length+1, ?_⟩
 unfold xL xM ew Kf
 refine cT rfl ?_
 refine (HI a (fun n i l=>kp bad k_ (a.length+1) a n l i) (fun _ r c l=>bif decide ((fun r l=>w64 (l - len (rS r 0))) r l<0) then k_ (-1) else c ((fun r l=>w64 (l - len (rS r 0))) r l)) k_ ?_ ?_ _).trans (alq (fun r l=>w64 (l - len (rS r 0))) k_ a 0 _)
 ·intro n i l h
  try dsimp only
  rw[Hg]
  simp only[qg,ch h,bw h,bu h hl,Int.toNat_natCast,ah,ao,cond_true]
 ·intro n l
  try dsimp only
  rw[Hg]
  simp only[qg,aQ,cond_false]
def Ai {α:Type} (k_:Int→α) (a:aK) (left:Int):α:=
 bif decide (ew a.dm left<0) then k_ (-1)
 else k_ (ew a.dm left)
def dj (a:aK) (left:Int):Int:=Ai id a left
theorem adh {α:Type} (k_:Int→α) (a:aK) (left:Int):Ai k_ a left=k_ (dj a left):=by
 exact cT rfl rfl
def JS {α:Type} (k_:Int→α) (a:Rows) (left:Int):α:=
 bif decide (w64 (left - (len a))<0) then k_ (-1)
 else k_ (w64 (left - (len a)))
theorem Wr {α:Type} (k_:Int→α) (a:Rows) (left:Int) (bT:WtC (.sl [.int .i64,.int .i64,.int .i64,.bool]) (.sl a)) (dS:WtC (.int .i64) (.int left)):JS k_ a left=k_ (cS a left):=by
 exact cT rfl rfl
def RW {α:Type} (k_:Int→α) (a:Rows) (left:Int):α:=
 bif decide (w64 (left - (len a))<0) then k_ (-1)
 else k_ (w64 (left - (len a)))
theorem ajN {α:Type} (k_:Int→α) (a:Rows) (left:Int) (bT:WtC (.sl [.int .i64]) (.sl a)) (dS:WtC (.int .i64) (.int left)):RW k_ a left=k_ (cS a left):=by
 exact cT rfl rfl
def EY {α:Type} (k_:Int→α) (a:aJ) (left:Int):α:=
 bif decide (cS a.dn left<0) then k_ (-1)
 else k_ (cS a.dn left)
def eC (a:aJ) (left:Int):Int:=EY id a left
theorem ajQ {α:Type} (k_:Int→α) (a:aJ) (left:Int):EY k_ a left=k_ (eC a left):=by
 exact cT rfl rfl
def y_ {α:Type} (k_:Int→α) (a:df) (left:Int):α:=
 bif decide (cS a.DA left<0) then k_ (-1)
 else k_ (cS a.DA left)
def eT (a:df) (left:Int):Int:=y_ id a left
theorem ajU {α:Type} (k_:Int→α) (a:df) (left:Int):y_ k_ a left=k_ (eT a left):=by
 exact cT rfl rfl
def ux {α:Type} (bad:α) (k_:Int→α) (a:Rows) (bZ:Int→Int→α) (bH:Int) (i:Int):α:=
 let z0:Int:=eT (df.ae (nth a (Int.toNat i)) 0) bH
 bif decide (i<len a) then
  bif ak true (idx i a) then
   bif decide (z0<0) then k_ (-1)
   else bZ z0 (w64 (i+1))
  else bad
 else k_ bH
def oS {α:Type} (bad:α) (k_:Int→α) (N:Nat) (a:Rows) (m_:Nat):Int→Int→α:=
 Nat.rec (motive:=fun _=>Int→Int→α) (fun _ _=>bad) (fun _ bZ=>ux bad k_ a bZ) m_
theorem Kn {α:Type} (bad:α) (k_:Int→α) (N:Nat) (a:Rows) (m_:Nat) (bH:Int) (i:Int):oS bad k_ N a (m_+1) bH i=ux bad k_ a (oS bad k_ N a m_) bH i:=rfl
def Ck {α:Type} (bad:α) (k_:Int→α) (l0:Int→Int→α) (a:Rows) (left:Int):α:=
 bif decide (w64 (left - (len a))<0) then k_ (-1)
 else l0 (w64 (left - (len a))) 0
def Cj {α:Type} (bad:α) (k_:Int→α) (N:Nat) (a:Rows) (left:Int):α:=Ck bad k_ (oS bad k_ N a N) a left
def jn (a:Rows) (left:Int):Int:=Kf (fun r l=>eT (df.ae r 0) l) a left
theorem agJ {α:Type} (bad:α) (k_:Int→α) (a:Rows) (left:Int) (bT:WtC (.sl [.int .i64,.int .i64,.sl [.int .i64]]) (.sl a)) (dS:WtC (.int .i64) (.int left)):∃N,Cj bad k_ N a left=k_ (jn a left):=by
 obtain⟨hl,_⟩:=cU bT
 refine⟨a.length+1, ?_⟩
 unfold Cj Ck jn Kf
 refine cT rfl ?_
 refine (HI a (fun n i l=>oS bad k_ (a.length+1) a n l i) (fun _ r c l=>bif decide ((fun r l=>eT (df.ae r 0) l) r l<0) then k_ (-1) else c ((fun r l=>eT (df.ae r 0) l) r l)) k_ ?_ ?_ _).trans (alq (fun r l=>eT (df.ae r 0) l) k_ a 0 _)
 ·intro n i l h
  try dsimp only
  rw[Kn]
  simp only[ux,ch h,bw h,bu h hl,Int.toNat_natCast,ah,ao,cond_true]
 ·intro n l
  try dsimp only
  rw[Kn]
  simp only[ux,aQ,cond_false]
def r_ {α:Type} (k_:Int→α) (a:au) (left:Int):α:=
 let z0:Int:=jn a.aG (eC a.a_ left)
 bif decide (eC a.a_ left<0) then k_ (-1)
 else bif decide (z0<0) then k_ (-1)
 else k_ z0
def dq (a:au) (left:Int):Int:=r_ id a left
theorem Zo {α:Type} (k_:Int→α) (a:au) (left:Int):r_ k_ a left=k_ (dq a left):=by
 exact cT rfl (cT rfl rfl)
def xN {α:Type} (k_:Int→α) (a:bk) (left:Int):α:=
 let z0:Int:=w64 (left - (len a.Body))
 bif decide (z0<0) then k_ (-1)
 else k_ z0
def jD (a:bk) (left:Int):Int:=xN id a left
theorem Zs {α:Type} (k_:Int→α) (a:bk) (left:Int):xN k_ a left=k_ (jD a left):=by
 exact cT rfl rfl
def Aj {α:Type} (k_:Int→α) (a:bG) (left:Int):α:=
 bif decide (jD a.Bj left<0) then k_ (-1)
 else k_ (jD a.Bj left)
def lW (a:bG) (left:Int):Int:=Aj id a left
theorem adn {α:Type} (k_:Int→α) (a:bG) (left:Int):Aj k_ a left=k_ (lW a left):=by
 exact cT rfl rfl
def Cl {α:Type} (k_:Int→α) (a:dh) (left:Int):α:=
 bif decide (lW a.cN left<0) then k_ (-1)
 else k_ (lW a.cN left)
def qh (a:dh) (left:Int):Int:=Cl id a left
theorem agN {α:Type} (k_:Int→α) (a:dh) (left:Int):Cl k_ a left=k_ (qh a left):=by
 exact cT rfl rfl
def xO {α:Type} (k_:Int→α) (a:aS) (left:Int):α:=
 bif decide (qh a.fh left<0) then k_ (-1)
 else k_ (qh a.fh left)
def fD (a:aS) (left:Int):Int:=xO id a left
theorem Zw {α:Type} (k_:Int→α) (a:aS) (left:Int):xO k_ a left=k_ (fD a left):=by
 exact cT rfl rfl
def nI {α:Type} (bad:α) (k_:Int→α) (a:Rows) (bZ:Int→Int→α) (bH:Int) (i:Int):α:=
 let z0:Int:=fD (aS.ae (nth a (Int.toNat i)) 0) bH
 bif decide (i<len a) then
  bif ak true (idx i a) then
   bif decide (z0<0) then k_ (-1)
   else bZ z0 (w64 (i+1))
  else bad
 else k_ bH
def iQ {α:Type} (bad:α) (k_:Int→α) (N:Nat) (a:Rows) (m_:Nat):Int→Int→α:=
 Nat.rec (motive:=fun _=>Int→Int→α) (fun _ _=>bad) (fun _ bZ=>nI bad k_ a bZ) m_
theorem FQ {α:Type} (bad:α) (k_:Int→α) (N:Nat) (a:Rows) (m_:Nat) (bH:Int) (i:Int):iQ bad k_ N a (m_+1) bH i=nI bad k_ a (iQ bad k_ N a m_) bH i:=rfl
def vn {α:Type} (bad:α) (k_:Int→α) (l0:Int→Int→α) (a:Rows) (left:Int):α:=
 bif decide (w64 (left - (len a))<0) then k_ (-1)
 else l0 (w64 (left - (len a))) 0
def vm {α:Type} (bad:α) (k_:Int→α) (N:Nat) (a:Rows) (left:Int):α:=vn bad k_ (iQ bad k_ N a N) a left
def dC (a:Rows) (left:Int):Int:=Kf (fun r l=>fD (aS.ae r 0) l) a left
theorem Wv {α:Type} (bad:α) (k_:Int→α) (a:Rows) (left:Int) (bT:WtC (.sl [.int .i64,.int .i64,.int .i64,.int .i64,.int .i64,.int .i64,.int .i64,.int .i64,.int .i64,.int .i64,.int .i64,.int .i64,.int .i64,.int .i64,.int .i64,.int .i64,.int .i64,.int .i64,.int .i64,.int .i64,.int .i64,.int .i64,.int .i64,.int .i64,.int .i64,.str,.int .i64,.int .i64,.bool,.int .i64]) (.sl a)) (dS:WtC (.int .i64) (.int left)):∃N,vm bad k_ N a left=k_ (dC a left):=by
 obtain⟨hl,_⟩:=cU bT
 refine⟨a.length+1, ?_⟩
 unfold vm vn dC Kf
 refine cT rfl ?_
 refine (HI a (fun n i l=>iQ bad k_ (a.length+1) a n l i) (fun _ r c l=>bif decide ((fun r l=>fD (aS.ae r 0) l) r l<0) then k_ (-1) else c ((fun r l=>fD (aS.ae r 0) l) r l)) k_ ?_ ?_ _).trans (alq (fun r l=>fD (aS.ae r 0) l) k_ a 0 _)
 ·intro n i l h
  try dsimp only
  rw[FQ]
  simp only[nI,ch h,bw h,bu h hl,Int.toNat_natCast,ah,ao,cond_true]
 ·intro n l
  try dsimp only
  rw[FQ]
  simp only[nI,aQ,cond_false]
def uy {α:Type} (bad:α) (k_:Int→α) (a:Rows) (bZ:Int→Int→α) (bH:Int) (i:Int):α:=
 let z0:Int:=eC (aJ.ae (nth a (Int.toNat i)) 0) bH
 bif decide (i<len a) then
  bif ak true (idx i a) then
   bif decide (z0<0) then k_ (-1)
   else bZ z0 (w64 (i+1))
  else bad
 else k_ bH
def oV {α:Type} (bad:α) (k_:Int→α) (N:Nat) (a:Rows) (m_:Nat):Int→Int→α:=
 Nat.rec (motive:=fun _=>Int→Int→α) (fun _ _=>bad) (fun _ bZ=>uy bad k_ a bZ) m_
theorem Ko {α:Type} (bad:α) (k_:Int→α) (N:Nat) (a:Rows) (m_:Nat) (bH:Int) (i:Int):oV bad k_ N a (m_+1) bH i=uy bad k_ a (oV bad k_ N a m_) bH i:=rfl
def Cp {α:Type} (bad:α) (k_:Int→α) (l0:Int→Int→α) (a:Rows) (left:Int):α:=
 bif decide (w64 (left - (len a))<0) then k_ (-1)
 else l0 (w64 (left - (len a))) 0
def Co {α:Type} (bad:α) (k_:Int→α) (N:Nat) (a:Rows) (left:Int):α:=Cp bad k_ (oV bad k_ N a N) a left
def eh (a:Rows) (left:Int):Int:=Kf (fun r l=>eC (aJ.ae r 0) l) a left
theorem agR {α:Type} (bad:α) (k_:Int→α) (a:Rows) (left:Int) (bT:WtC (.sl [.int .i64,.int .i64,.int .i64,.sl [.int .i64]]) (.sl a)) (dS:WtC (.int .i64) (.int left)):∃N,Co bad k_ N a left=k_ (eh a left):=by
 obtain⟨hl,_⟩:=cU bT
 refine⟨a.length+1, ?_⟩
 unfold Co Cp eh Kf
 refine cT rfl ?_
 refine (HI a (fun n i l=>oV bad k_ (a.length+1) a n l i) (fun _ r c l=>bif decide ((fun r l=>eC (aJ.ae r 0) l) r l<0) then k_ (-1) else c ((fun r l=>eC (aJ.ae r 0) l) r l)) k_ ?_ ?_ _).trans (alq (fun r l=>eC (aJ.ae r 0) l) k_ a 0 _)
 ·intro n i l h
  try dsimp only
  rw[Ko]
  simp only[uy,ch h,bw h,bu h hl,Int.toNat_natCast,ah,ao,cond_true]
 ·intro n l
  try dsimp only
  rw[Ko]
  simp only[uy,aQ,cond_false]
def LN {α:Type} (k_:Int→α) (a:Rows) (left:Int):α:=
 bif decide (w64 (left - (len a))<0) then k_ (-1)
 else k_ (w64 (left - (len a)))
theorem ZA {α:Type} (k_:Int→α) (a:Rows) (left:Int) (bT:WtC (.sl [.int .i64,.int .i64,.int .i64,.int .i64,.bool,.bool]) (.sl a)) (dS:WtC (.int .i64) (.int left)):LN k_ a left=k_ (cS a left):=by
 exact cT rfl rfl
def O6 {α:Type} (k_:Int→α) (a:Rows) (left:Int):α:=
 bif decide (w64 (left - (len a))<0) then k_ (-1)
 else k_ (w64 (left - (len a)))
theorem agV {α:Type} (k_:Int→α) (a:Rows) (left:Int) (bT:WtC (.sl [.bool]) (.sl a)) (dS:WtC (.int .i64) (.int left)):O6 k_ a left=k_ (cS a left):=by
 exact cT rfl rfl
def Ak {α:Type} (k_:Int→α) (a:aI) (left:Int):α:=
 bif decide (cS a.cW left<0) then k_ (-1)
 else k_ (cS a.cW left)
def e_ (a:aI) (left:Int):Int:=Ak id a left
theorem adt {α:Type} (k_:Int→α) (a:aI) (left:Int):Ak k_ a left=k_ (e_ a left):=by
 exact cT rfl rfl
def O9 {α:Type} (k_:Int→α) (a:Rows) (left:Int):α:=
 bif decide (w64 (left - (len a))<0) then k_ (-1)
 else k_ (w64 (left - (len a)))
theorem agZ {α:Type} (k_:Int→α) (a:Rows) (left:Int) (bT:WtC (.sl [.int .i64,.int .i64,.int .i64,.int .i64,.int .i64,.int .i64,.int .i64,.int .i64,.int .i64]) (.sl a)) (dS:WtC (.int .i64) (.int left)):O9 k_ a left=k_ (cS a left):=by
 exact cT rfl rfl
def Pb {α:Type} (k_:Int→α) (a:Rows) (left:Int):α:=
 bif decide (w64 (left - (len a))<0) then k_ (-1)
 else k_ (w64 (left - (len a)))
theorem ag3 {α:Type} (k_:Int→α) (a:Rows) (left:Int) (bT:WtC (.sl [.int .i64,.int .i64,.int .i64,.int .i64,.int .i64,.int .i64,.int .i64]) (.sl a)) (dS:WtC (.int .i64) (.int left)):Pb k_ a left=k_ (cS a left):=by
 exact cT rfl rfl
def tB {α:Type} (k_:Int→α) (a:ag) (left:Int):α:=
 bif decide (cS a.aL left<0) then k_ (-1)
 else k_ (cS a.aL left)
def gv (a:ag) (left:Int):Int:=tB id a left
theorem TW {α:Type} (k_:Int→α) (a:ag) (left:Int):tB k_ a left=k_ (gv a left):=by
 exact cT rfl rfl
def Al {α:Type} (k_:Int→α) (a:aM) (left:Int):α:=
 let z0:Int:=w64 (left - (len a.Key))
 let z1:Int:=cS a.Table z0
 bif decide (z0<0) then k_ (-1)
 else bif decide (z1<0) then k_ (-1)
 else k_ z1
def qJ (a:aM) (left:Int):Int:=Al id a left
theorem adx {α:Type} (k_:Int→α) (a:aM) (left:Int):Al k_ a left=k_ (qJ a left):=by
 exact cT rfl (cT rfl rfl)
def vo {α:Type} (k_:Int→α) (a:al) (left:Int):α:=
 let z0:Int:=gv a.Table (cS a.bW left)
 let z1:Int:=qJ a.bj z0
 bif decide (cS a.bW left<0) then k_ (-1)
 else bif decide (z0<0) then k_ (-1)
 else bif decide (z1<0) then k_ (-1)
 else k_ z1
def ey (a:al) (left:Int):Int:=vo id a left
theorem Wz {α:Type} (k_:Int→α) (a:al) (left:Int):vo k_ a left=k_ (ey a left):=by
 exact cT rfl (cT rfl (cT rfl rfl))
def Am {α:Type} (k_:Int→α) (a:bM) (left:Int):α:=
 let z0:Int:=w64 (left - (len a.Data))
 bif decide (z0<0) then k_ (-1)
 else k_ z0
def gy (a:bM) (left:Int):Int:=Am id a left
theorem adB {α:Type} (k_:Int→α) (a:bM) (left:Int):Am k_ a left=k_ (gy a left):=by
 exact cT rfl rfl
def qj {α:Type} (bad:α) (k_:Int→α) (a:Rows) (bZ:Int→Int→α) (bH:Int) (i:Int):α:=
 let z0:Int:=gy (bM.ae (nth a (Int.toNat i)) 0) bH
 bif decide (i<len a) then
  bif ak true (idx i a) then
   bif decide (z0<0) then k_ (-1)
   else bZ z0 (w64 (i+1))
  else bad
 else k_ bH
def kt {α:Type} (bad:α) (k_:Int→α) (N:Nat) (a:Rows) (m_:Nat):Int→Int→α:=
 Nat.rec (motive:=fun _=>Int→Int→α) (fun _ _=>bad) (fun _ bZ=>qj bad k_ a bZ) m_
theorem Hh {α:Type} (bad:α) (k_:Int→α) (N:Nat) (a:Rows) (m_:Nat) (bH:Int) (i:Int):kt bad k_ N a (m_+1) bH i=qj bad k_ a (kt bad k_ N a m_) bH i:=rfl
def xS {α:Type} (bad:α) (k_:Int→α) (l0:Int→Int→α) (a:Rows) (left:Int):α:=
 bif decide (w64 (left - (len a))<0) then k_ (-1)
 else l0 (w64 (left - (len a))) 0
def xR {α:Type} (bad:α) (k_:Int→α) (N:Nat) (a:Rows) (left:Int):α:=xS bad k_ (kt bad k_ N a N) a left
def fE (a:Rows) (left:Int):Int:=Kf (fun r l=>gy (bM.ae r 0) l) a left
theorem ZE {α:Type} (bad:α) (k_:Int→α) (a:Rows) (left:Int) (bT:WtC (.sl [.int .i64,.int .i64,.int .i64,.int .i64,.int .i64,.int .i64,.str,.bool]) (.sl a)) (dS:WtC (.int .i64) (.int left)):∃N,xR bad k_ N a left=k_ (fE a left):=by
 obtain⟨hl,_⟩:=cU bT
 refine⟨a.length+1, ?_⟩
 unfold xR xS fE Kf
 refine cT rfl ?_
 refine (HI a (fun n i l=>kt bad k_ (a.length+1) a n l i) (fun _ r c l=>bif decide ((fun r l=>gy (bM.ae r 0) l) r l<0) then k_ (-1) else c ((fun r l=>gy (bM.ae r 0) l) r l)) k_ ?_ ?_ _).trans (alq (fun r l=>gy (bM.ae r 0) l) k_ a 0 _)
 ·intro n i l h
  try dsimp only
  rw[Hh]
  simp only[qj,ch h,bw h,bu h hl,Int.toNat_natCast,ah,ao,cond_true]
 ·intro n l
  try dsimp only
  rw[Hh]
  simp only[qj,aQ,cond_false]
def za {α:Type} (k_:Int→α) (a:aB) (left:Int):α:=
 let z0:Int:=cS a.Maps (dj a.bV left)
 let z1:Int:=dq a.Tx z0
 let z2:Int:=dC a.Rx z1
 let z3:Int:=eh a.bN z2
 let z4:Int:=cS a.aY z3
 let z5:Int:=cS a.cj z4
 let z6:Int:=e_ a.Filter z5
 let z7:Int:=ey a.aj z6
 let z8:Int:=fE a.cO z7
 let z9:Int:=ew a.ic z8
 let z10:Int:=cS a.bK z9
 let Xx:Int:=cS a.b_ z10
 bif decide (dj a.bV left<0) then k_ (-1)
 else bif decide (z0<0) then k_ (-1)
 else bif decide (z1<0) then k_ (-1)
 else bif decide (z2<0) then k_ (-1)
 else bif decide (z3<0) then k_ (-1)
 else bif decide (z4<0) then k_ (-1)
 else bif decide (z5<0) then k_ (-1)
 else bif decide (z6<0) then k_ (-1)
 else bif decide (z7<0) then k_ (-1)
 else bif decide (z8<0) then k_ (-1)
 else bif decide (z9<0) then k_ (-1)
 else bif decide (z10<0) then k_ (-1)
 else bif decide (Xx<0) then k_ (-1)
 else k_ Xx
def qk (a:aB) (left:Int):Int:=za id a left
theorem ajX {α:Type} (k_:Int→α) (a:aB) (left:Int):za k_ a left=k_ (qk a left):=by
 exact cT rfl (cT rfl (cT rfl (cT rfl (cT rfl (cT rfl (cT rfl (cT rfl (cT rfl (cT rfl (cT rfl (cT rfl (cT rfl rfl))))))))))))
def ql {α:Type} (bad:α) (k_:Bool→α) (a:Rows) (b:Rows) (bZ:Int→α) (i:Int):α:=
 bif decide (i<len a) then
  bif ak (ak true (idx i a)) (idx i b) then
   bif !((rS (nth a (Int.toNat i)) 0)==(rS (nth b (Int.toNat i)) 0)) then k_ false
   else bZ (w64 (i+1))
  else bad
 else k_ true
def kx {α:Type} (bad:α) (k_:Bool→α) (N:Nat) (a:Rows) (b:Rows) (m_:Nat):Int→α:=
 Nat.rec (motive:=fun _=>Int→α) (fun _=>bad) (fun _ bZ=>ql bad k_ a b bZ) m_
theorem Hi {α:Type} (bad:α) (k_:Bool→α) (N:Nat) (a:Rows) (b:Rows) (m_:Nat) (i:Int):kx bad k_ N a b (m_+1) i=ql bad k_ a b (kx bad k_ N a b m_) i:=rfl
def xW {α:Type} (bad:α) (k_:Bool→α) (l0:Int→α) (a:Rows) (b:Rows):α:=
 bif (len a) != (len b) then k_ false
 else l0 0
def xV {α:Type} (bad:α) (k_:Bool→α) (N:Nat) (a:Rows) (b:Rows):α:=xW bad k_ (kx bad k_ N a b N) a b
theorem ZH {α:Type} (bad:α) (k_:Bool→α) (a:Rows) (b:Rows) (bT:WtC (.sl [.str]) (.sl a)) (lX:WtC (.sl [.str]) (.sl b)) (hok:same a b=true):∃N,xV bad k_ N a b=k_ (cV a b):=by
 obtain rfl:=dU hok
 obtain⟨hl,_⟩:=cU bT
 refine⟨a.length+1, ?_⟩
 unfold xV xW
 simp only[bne_self_eq_false,cond_false]
 refine (dQ a (kx bad k_ (a.length+1) a a) (fun _ _ c=>c) (k_ true) ?_ ?_).trans (Dq _ _ _)
 ·intro n i h
  rw[Hi]
  simp only[ql,ch h,bw h,bu h hl,Int.toNat_natCast,ah,ao,cond_true,cond_false,bne_self_eq_false,beq_self_eq_true,Bool.not_true,cY,cV]
 ·intro n
  rw[Hi]
  simp only[ql,aQ,cond_false]
def qL {α:Type} (k_:Bool→α) (a:ay) (b:ay):α:=
 bif a.cP != b.cP then k_ false
 else bif a.bB != b.bB then k_ false
 else bif a.Count != b.Count then k_ false
 else k_ true
theorem KW {α:Type} (k_:Bool→α) (a:ay) (b:ay) (bT:WtL ay.ct a.enc) (lX:WtL ay.ct b.enc) (hok:same a b=true):qL k_ a b=k_ (cV a b):=by
 obtain rfl:=dU hok
 simp only[qL,cY,cV,bne_self_eq_false,beq_self_eq_true,Bool.not_true,cond_false,cond_true,ah,ao]
def R6 {α:Type} (k_:cZ→α) (a:cZ):α:=
 k_ a
theorem aj1 {α:Type} (k_:cZ→α) (a:cZ) (bT:WtL cZ.ct a.enc):R6 k_ a=k_ (ca a):=by
 rfl
def uz {α:Type} (bad:α) (k_:Rows→α) (a:Rows) (bZ:Int→Rows→α) (i:Int) (az:Rows):α:=
 bif decide (i<len a) then
  bif ak (ak (ak true (idx i a)) (idx i az)) (inl (Int.toNat i) az) then
   bZ (w64 (i+1)) (List.set az (Int.toNat i) (aD (nth az (Int.toNat i)) 0 (cZ.enc (ca (cZ.ae (nth a (Int.toNat i)) 0)))))
  else bad
 else k_ az
def oY {α:Type} (bad:α) (k_:Rows→α) (N:Nat) (a:Rows) (m_:Nat):Int→Rows→α:=
 Nat.rec (motive:=fun _=>Int→Rows→α) (fun _ _=>bad) (fun _ bZ=>uz bad k_ a bZ) m_
theorem Kp {α:Type} (bad:α) (k_:Rows→α) (N:Nat) (a:Rows) (m_:Nat) (i:Int) (az:Rows):oY bad k_ N a (m_+1) i az=uz bad k_ a (oY bad k_ N a m_) i az:=rfl
def Cu {α:Type} (bad:α) (k_:Rows→α) (l0:Int→Rows→α) (a:Rows):α:=
 bif ak true (makeOk 72 (len a) (len a)) then
  l0 0 (List.replicate (Int.toNat (len a)) ([.int 0,.int 0,.int 0,.int 0,.int 0,.int 0,.int 0,.int 0,.int 0]:List DC))
 else bad
def Ct {α:Type} (bad:α) (k_:Rows→α) (N:Nat) (a:Rows):α:=Cu bad k_ (oY bad k_ N a N) a
theorem ag7 {α:Type} (bad:α) (k_:Rows→α) (a:Rows) (bT:WtC (.sl [.int .i64,.int .i64,.int .i64,.int .i64,.int .i64,.int .i64,.int .i64,.int .i64,.int .i64]) (.sl a)) (hok:sm a=true):∃N,Ct bad k_ N a=k_ (ca a):=by
 obtain⟨hl,hw⟩:=cU bT
 have hsm:=hok
 refine⟨a.length+1, ?_⟩
 unfold Ct Cu
 have e0:Int.toNat (len a)=a.length:=by simp [len]
 simp only[Dr hsm (show 72≤8388608 by omega),ah,cond_true,e0]
 refine wO a (oY bad k_ (a.length+1) a) k_ [.int 0,.int 0,.int 0,.int 0,.int 0,.int 0,.int 0,.int 0,.int 0] (fun o r=>aD o 0 (cZ.enc (ca (cZ.ae r 0)))) ?_ ?_ ?_
 ·intro n i out h ho
  rw[Kp]
  simp only[uz,ch h,bw h,Dt ho h,eI (show i<out.length by omega),bu h hl,Int.toNat_natCast,Bool.and_true,ah,ao,cond_true]
  try rfl
 ·intro n out ho
  rw[Kp]
  simp only[uz,aQ,cond_false]
 ·intro r hr
  refine (fw ?_).trans ?_
  ·rfl
  ·exact cZ.eta (hw r hr)
def R9 {α:Type} (k_:bh→α) (a:bh):α:=
 k_ a
theorem aj4 {α:Type} (k_:bh→α) (a:bh) (bT:WtL bh.ct a.enc):R9 k_ a=k_ (ca a):=by
 rfl
def Sc {α:Type} (k_:dW→α) (a:dW):α:=
 k_ (⟨a.State,ca a.I4,a.Queue⟩:dW)
theorem aj8 {α:Type} (k_:dW→α) (a:dW) (bT:WtL dW.ct a.enc):Sc k_ a=k_ (ca a):=by
 rfl
def uA {α:Type} (bad:α) (k_:Rows→α) (a:Rows) (bZ:Int→Rows→α) (i:Int) (az:Rows):α:=
 bif decide (i<len a) then
  bif ak (ak (ak true (idx i a)) (idx i az)) (inl (Int.toNat i) az) then
   bZ (w64 (i+1)) (List.set az (Int.toNat i) (aD (nth az (Int.toNat i)) 0 (dW.enc (ca (dW.ae (nth a (Int.toNat i)) 0)))))
  else bad
 else k_ az
def pb {α:Type} (bad:α) (k_:Rows→α) (N:Nat) (a:Rows) (m_:Nat):Int→Rows→α:=
 Nat.rec (motive:=fun _=>Int→Rows→α) (fun _ _=>bad) (fun _ bZ=>uA bad k_ a bZ) m_
theorem Kq {α:Type} (bad:α) (k_:Rows→α) (N:Nat) (a:Rows) (m_:Nat) (i:Int) (az:Rows):pb bad k_ N a (m_+1) i az=uA bad k_ a (pb bad k_ N a m_) i az:=rfl
def Cy {α:Type} (bad:α) (k_:Rows→α) (l0:Int→Rows→α) (a:Rows):α:=
 bif ak true (makeOk 56 (len a) (len a)) then
  l0 0 (List.replicate (Int.toNat (len a)) ([.int 0,.int 0,.int 0,.int 0,.int 0,.int 0,.int 0]:List DC))
 else bad
def Cx {α:Type} (bad:α) (k_:Rows→α) (N:Nat) (a:Rows):α:=Cy bad k_ (pb bad k_ N a N) a
theorem aha {α:Type} (bad:α) (k_:Rows→α) (a:Rows) (bT:WtC (.sl [.int .i64,.int .i64,.int .i64,.int .i64,.int .i64,.int .i64,.int .i64]) (.sl a)) (hok:sm a=true):∃N,Cx bad k_ N a=k_ (ca a):=by
 obtain⟨hl,hw⟩:=cU bT
 have hsm:=hok
 refine⟨a.length+1, ?_⟩
 unfold Cx Cy
 have e0:Int.toNat (len a)=a.length:=by simp [len]
 simp only[Dr hsm (show 56≤8388608 by omega),ah,cond_true,e0]
 refine wO a (pb bad k_ (a.length+1) a) k_ [.int 0,.int 0,.int 0,.int 0,.int 0,.int 0,.int 0] (fun o r=>aD o 0 (dW.enc (ca (dW.ae r 0)))) ?_ ?_ ?_
 ·intro n i out h ho
  rw[Kq]
  simp only[uA,ch h,bw h,Dt ho h,eI (show i<out.length by omega),bu h hl,Int.toNat_natCast,Bool.and_true,ah,ao,cond_true]
  try rfl
 ·intro n out ho
  rw[Kq]
  simp only[uA,aQ,cond_false]
 ·intro r hr
  refine (fw ?_).trans ?_
  ·rfl
  ·exact dW.eta (hw r hr)
def nM {α:Type} (bad:α) (k_:ag→α) (a:ag):α:=
 bif ak true (sm a.aL) then
  k_ (⟨ca a.aL⟩:ag)
 else bad
def hD (a:ag):Bool:=nM false (fun _=>true) a
theorem T0 {α:Type} (bad:α) (k_:ag→α) (a:ag) (bT:WtL ag.ct a.enc) (hok:hD a=true):nM bad k_ a=k_ (ca a):=by
 exact eJ (fun _=>rfl) hok
def wy {α:Type} (bad:α) (k_:Rows→α) (a:Rows) (bZ:Int→Rows→α) (i:Int) (az:Rows):α:=
 bif decide (i<len a) then
  bif ak (ak (ak true (idx i a)) (idx i az)) (inl (Int.toNat i) az) then
   bZ (w64 (i+1)) (List.set az (Int.toNat i) (aD (nth az (Int.toNat i)) 0 [.int (rI (nth a (Int.toNat i)) 0)]))
  else bad
 else k_ az
def se {α:Type} (bad:α) (k_:Rows→α) (N:Nat) (a:Rows) (m_:Nat):Int→Rows→α:=
 Nat.rec (motive:=fun _=>Int→Rows→α) (fun _ _=>bad) (fun _ bZ=>wy bad k_ a bZ) m_
theorem Ml {α:Type} (bad:α) (k_:Rows→α) (N:Nat) (a:Rows) (m_:Nat) (i:Int) (az:Rows):se bad k_ N a (m_+1) i az=wy bad k_ a (se bad k_ N a m_) i az:=rfl
def E4 {α:Type} (bad:α) (k_:Rows→α) (l0:Int→Rows→α) (a:Rows):α:=
 bif ak true (makeOk 8 (len a) (len a)) then
  l0 0 (List.replicate (Int.toNat (len a)) ([.int 0]:List DC))
 else bad
def E3 {α:Type} (bad:α) (k_:Rows→α) (N:Nat) (a:Rows):α:=E4 bad k_ (se bad k_ N a N) a
theorem aka {α:Type} (bad:α) (k_:Rows→α) (a:Rows) (bT:WtC (.sl [.int .i64]) (.sl a)) (hok:sm a=true):∃N,E3 bad k_ N a=k_ (ca a):=by
 obtain⟨hl,hw⟩:=cU bT
 have hsm:=hok
 refine⟨a.length+1, ?_⟩
 unfold E3 E4
 have e0:Int.toNat (len a)=a.length:=by simp [len]
 simp only[Dr hsm (show 8≤8388608 by omega),ah,cond_true,e0]
 refine wO a (se bad k_ (a.length+1) a) k_ [.int 0] (fun o r=>aD o 0 ([.int (rI r 0)])) ?_ ?_ ?_
 ·intro n i out h ho
  rw[Ml]
  simp only[wy,ch h,bw h,Dt ho h,eI (show i<out.length by omega),bu h hl,Int.toNat_natCast,Bool.and_true,ah,ao,cond_true]
  try rfl
 ·intro n out ho
  rw[Ml]
  simp only[wy,aQ,cond_false]
 ·intro r hr
  refine (fw ?_).trans ?_
  ·rfl
  ·exact aq3 (hw r hr)
def uB {α:Type} (bad:α) (k_:aM→α) (a:aM):α:=
 bif ak true (sm a.Table) then
  k_ (⟨a.Key,ca a.Table⟩:aM)
 else bad
def mH (a:aM):Bool:=uB false (fun _=>true) a
theorem adJ {α:Type} (bad:α) (k_:aM→α) (a:aM) (bT:WtL aM.ct a.enc) (hok:mH a=true):uB bad k_ a=k_ (ca a):=by
 exact eJ (fun _=>rfl) hok
def qm {α:Type} (bad:α) (k_:al→α) (a:al):α:=
 bif ak true (sm a.bW) then
  bif ak true (hD a.Table) then
   bif ak true (mH a.bj) then
    k_ (⟨ca a.bW,ca a.Table,ca a.bj⟩:al)
   else bad
  else bad
 else bad
def iT (a:al):Bool:=qm false (fun _=>true) a
theorem WI {α:Type} (bad:α) (k_:al→α) (a:al) (bT:WtL al.ct a.enc) (hok:iT a=true):qm bad k_ a=k_ (ca a):=by
 exact eJ (eJ (eJ (fun _=>rfl))) hok
def Gp {α:Type} (k_:Bool→α) (a:aC) (b:aC):α:=
 bif a.sM != b.sM then k_ false
 else bif a.yE != b.yE then k_ false
 else bif a.Count != b.Count then k_ false
 else bif a.Time != b.Time then k_ false
 else bif !(a.Dz==b.Dz) then k_ false
 else bif !(a.Ba==b.Ba) then k_ false
 else k_ true
theorem adN {α:Type} (k_:Bool→α) (a:aC) (b:aC) (bT:WtL aC.ct a.enc) (lX:WtL aC.ct b.enc) (hok:same a b=true):Gp k_ a b=k_ (cV a b):=by
 obtain rfl:=dU hok
 simp only[Gp,cY,cV,bne_self_eq_false,beq_self_eq_true,Bool.not_true,cond_false,cond_true,ah,ao]
def qn {α:Type} (bad:α) (k_:Bool→α) (a:Rows) (b:Rows) (bZ:Int→α) (i:Int):α:=
 bif decide (i<len a) then
  bif ak (ak (ak true (idx i a)) (idx i b)) (same (aC.ae (nth a (Int.toNat i)) 0) (aC.ae (nth b (Int.toNat i)) 0)) then
   bif !(cV (aC.ae (nth a (Int.toNat i)) 0) (aC.ae (nth b (Int.toNat i)) 0)) then k_ false
   else bZ (w64 (i+1))
  else bad
 else k_ true
def kA {α:Type} (bad:α) (k_:Bool→α) (N:Nat) (a:Rows) (b:Rows) (m_:Nat):Int→α:=
 Nat.rec (motive:=fun _=>Int→α) (fun _=>bad) (fun _ bZ=>qn bad k_ a b bZ) m_
theorem Hj {α:Type} (bad:α) (k_:Bool→α) (N:Nat) (a:Rows) (b:Rows) (m_:Nat) (i:Int):kA bad k_ N a b (m_+1) i=qn bad k_ a b (kA bad k_ N a b m_) i:=rfl
def x8 {α:Type} (bad:α) (k_:Bool→α) (l0:Int→α) (a:Rows) (b:Rows):α:=
 bif (len a) != (len b) then k_ false
 else l0 0
def xZ {α:Type} (bad:α) (k_:Bool→α) (N:Nat) (a:Rows) (b:Rows):α:=x8 bad k_ (kA bad k_ N a b N) a b
theorem ZL {α:Type} (bad:α) (k_:Bool→α) (a:Rows) (b:Rows) (bT:WtC (.sl [.int .i64,.int .i64,.int .i64,.int .i64,.bool,.bool]) (.sl a)) (lX:WtC (.sl [.int .i64,.int .i64,.int .i64,.int .i64,.bool,.bool]) (.sl b)) (hok:same a b=true):∃N,xZ bad k_ N a b=k_ (cV a b):=by
 obtain rfl:=dU hok
 obtain⟨hl,_⟩:=cU bT
 refine⟨a.length+1, ?_⟩
 unfold xZ x8
 simp only[bne_self_eq_false,cond_false]
 refine (dQ a (kA bad k_ (a.length+1) a a) (fun _ _ c=>c) (k_ true) ?_ ?_).trans (Dq _ _ _)
 ·intro n i h
  rw[Hj]
  simp only[qn,ch h,bw h,bu h hl,Int.toNat_natCast,ah,ao,cond_true,cond_false,bne_self_eq_false,beq_self_eq_true,Bool.not_true,cY,cV]
 ·intro n
  rw[Hj]
  simp only[qn,aQ,cond_false]
def wz {α:Type} (bad:α) (k_:Bool→α) (a:Rows) (b:Rows) (bZ:Int→α) (i:Int):α:=
 bif decide (i<len a) then
  bif ak (ak true (idx i a)) (idx i b) then
   bif (rI (nth a (Int.toNat i)) 0) != (rI (nth b (Int.toNat i)) 0) then k_ false
   else bZ (w64 (i+1))
  else bad
 else k_ true
def sk {α:Type} (bad:α) (k_:Bool→α) (N:Nat) (a:Rows) (b:Rows) (m_:Nat):Int→α:=
 Nat.rec (motive:=fun _=>Int→α) (fun _=>bad) (fun _ bZ=>wz bad k_ a b bZ) m_
theorem Mm {α:Type} (bad:α) (k_:Bool→α) (N:Nat) (a:Rows) (b:Rows) (m_:Nat) (i:Int):sk bad k_ N a b (m_+1) i=wz bad k_ a b (sk bad k_ N a b m_) i:=rfl
def E8 {α:Type} (bad:α) (k_:Bool→α) (l0:Int→α) (a:Rows) (b:Rows):α:=
 bif (len a) != (len b) then k_ false
 else l0 0
def E7 {α:Type} (bad:α) (k_:Bool→α) (N:Nat) (a:Rows) (b:Rows):α:=E8 bad k_ (sk bad k_ N a b N) a b
theorem akd {α:Type} (bad:α) (k_:Bool→α) (a:Rows) (b:Rows) (bT:WtC (.sl [.int .i64]) (.sl a)) (lX:WtC (.sl [.int .i64]) (.sl b)) (hok:same a b=true):∃N,E7 bad k_ N a b=k_ (cV a b):=by
 obtain rfl:=dU hok
 obtain⟨hl,_⟩:=cU bT
 refine⟨a.length+1, ?_⟩
 unfold E7 E8
 simp only[bne_self_eq_false,cond_false]
 refine (dQ a (sk bad k_ (a.length+1) a a) (fun _ _ c=>c) (k_ true) ?_ ?_).trans (Dq _ _ _)
 ·intro n i h
  rw[Mm]
  simp only[wz,ch h,bw h,bu h hl,Int.toNat_natCast,ah,ao,cond_true,cond_false,bne_self_eq_false,beq_self_eq_true,Bool.not_true,cY,cV]
 ·intro n
  rw[Mm]
  simp only[wz,aQ,cond_false]
def K_ {α:Type} (bad:α) (k_:Bool→α) (a:df) (b:df):α:=
 bif a.ame != b.ame then k_ false
 else bif a.aL != b.aL then k_ false
 else bif ak true (same a.DA b.DA) then
   bif !(cV a.DA b.DA) then k_ false
   else k_ true
  else bad
theorem akh {α:Type} (bad:α) (k_:Bool→α) (a:df) (b:df) (bT:WtL df.ct a.enc) (lX:WtL df.ct b.enc) (hok:same a b=true):K_ bad k_ a b=k_ (cV a b):=by
 obtain rfl:=dU hok
 simp only[K_,cY,cV,bne_self_eq_false,beq_self_eq_true,Bool.not_true,cond_false,cond_true,ah,ao]
def uC {α:Type} (bad:α) (k_:Bool→α) (a:Rows) (b:Rows) (bZ:Int→α) (i:Int):α:=
 bif decide (i<len a) then
  bif ak (ak (ak true (idx i a)) (idx i b)) (same (df.ae (nth a (Int.toNat i)) 0) (df.ae (nth b (Int.toNat i)) 0)) then
   bif !(cV (df.ae (nth a (Int.toNat i)) 0) (df.ae (nth b (Int.toNat i)) 0)) then k_ false
   else bZ (w64 (i+1))
  else bad
 else k_ true
def pe {α:Type} (bad:α) (k_:Bool→α) (N:Nat) (a:Rows) (b:Rows) (m_:Nat):Int→α:=
 Nat.rec (motive:=fun _=>Int→α) (fun _=>bad) (fun _ bZ=>uC bad k_ a b bZ) m_
theorem Kr {α:Type} (bad:α) (k_:Bool→α) (N:Nat) (a:Rows) (b:Rows) (m_:Nat) (i:Int):pe bad k_ N a b (m_+1) i=uC bad k_ a b (pe bad k_ N a b m_) i:=rfl
def CD {α:Type} (bad:α) (k_:Bool→α) (l0:Int→α) (a:Rows) (b:Rows):α:=
 bif (len a) != (len b) then k_ false
 else l0 0
def CC {α:Type} (bad:α) (k_:Bool→α) (N:Nat) (a:Rows) (b:Rows):α:=CD bad k_ (pe bad k_ N a b N) a b
theorem ahi {α:Type} (bad:α) (k_:Bool→α) (a:Rows) (b:Rows) (bT:WtC (.sl [.int .i64,.int .i64,.sl [.int .i64]]) (.sl a)) (lX:WtC (.sl [.int .i64,.int .i64,.sl [.int .i64]]) (.sl b)) (hok:same a b=true):∃N,CC bad k_ N a b=k_ (cV a b):=by
 obtain rfl:=dU hok
 obtain⟨hl,_⟩:=cU bT
 refine⟨a.length+1, ?_⟩
 unfold CC CD
 simp only[bne_self_eq_false,cond_false]
 refine (dQ a (pe bad k_ (a.length+1) a a) (fun _ _ c=>c) (k_ true) ?_ ?_).trans (Dq _ _ _)
 ·intro n i h
  rw[Kr]
  simp only[uC,ch h,bw h,bu h hl,Int.toNat_natCast,ah,ao,cond_true,cond_false,bne_self_eq_false,beq_self_eq_true,Bool.not_true,cY,cV]
 ·intro n
  rw[Kr]
  simp only[uC,aQ,cond_false]
def Ed {α:Type} (k_:Bool→α) (a:cq) (b:cq):α:=
 bif a.an2 != b.an2 then k_ false
 else bif a.amb != b.amb then k_ false
 else bif a.aiG != b.aiG then k_ false
 else bif !(a.aiH==b.aiH) then k_ false
 else k_ true
theorem ZP {α:Type} (k_:Bool→α) (a:cq) (b:cq) (bT:WtL cq.ct a.enc) (lX:WtL cq.ct b.enc) (hok:same a b=true):Ed k_ a b=k_ (cV a b):=by
 obtain rfl:=dU hok
 simp only[Ed,cY,cV,bne_self_eq_false,beq_self_eq_true,Bool.not_true,cond_false,cond_true,ah,ao]
def nO {α:Type} (bad:α) (k_:Bool→α) (a:Rows) (b:Rows) (bZ:Int→α) (i:Int):α:=
 bif decide (i<len a) then
  bif ak (ak (ak true (idx i a)) (idx i b)) (same (cq.ae (nth a (Int.toNat i)) 0) (cq.ae (nth b (Int.toNat i)) 0)) then
   bif !(cV (cq.ae (nth a (Int.toNat i)) 0) (cq.ae (nth b (Int.toNat i)) 0)) then k_ false
   else bZ (w64 (i+1))
  else bad
 else k_ true
def iX {α:Type} (bad:α) (k_:Bool→α) (N:Nat) (a:Rows) (b:Rows) (m_:Nat):Int→α:=
 Nat.rec (motive:=fun _=>Int→α) (fun _=>bad) (fun _ bZ=>nO bad k_ a b bZ) m_
theorem FR {α:Type} (bad:α) (k_:Bool→α) (N:Nat) (a:Rows) (b:Rows) (m_:Nat) (i:Int):iX bad k_ N a b (m_+1) i=nO bad k_ a b (iX bad k_ N a b m_) i:=rfl
def vt {α:Type} (bad:α) (k_:Bool→α) (l0:Int→α) (a:Rows) (b:Rows):α:=
 bif (len a) != (len b) then k_ false
 else l0 0
def vr {α:Type} (bad:α) (k_:Bool→α) (N:Nat) (a:Rows) (b:Rows):α:=vt bad k_ (iX bad k_ N a b N) a b
theorem WO {α:Type} (bad:α) (k_:Bool→α) (a:Rows) (b:Rows) (bT:WtC (.sl [.int .i64,.int .i64,.int .i64,.bool]) (.sl a)) (lX:WtC (.sl [.int .i64,.int .i64,.int .i64,.bool]) (.sl b)) (hok:same a b=true):∃N,vr bad k_ N a b=k_ (cV a b):=by
 obtain rfl:=dU hok
 obtain⟨hl,_⟩:=cU bT
 refine⟨a.length+1, ?_⟩
 unfold vr vt
 simp only[bne_self_eq_false,cond_false]
 refine (dQ a (iX bad k_ (a.length+1) a a) (fun _ _ c=>c) (k_ true) ?_ ?_).trans (Dq _ _ _)
 ·intro n i h
  rw[FR]
  simp only[nO,ch h,bw h,bu h hl,Int.toNat_natCast,ah,ao,cond_true,cond_false,bne_self_eq_false,beq_self_eq_true,Bool.not_true,cY,cV]
 ·intro n
  rw[FR]
  simp only[nO,aQ,cond_false]
def Lb {α:Type} (k_:Bool→α) (a:cZ) (b:cZ):α:=
 bif a.Priority != b.Priority then k_ false
 else bif a.Kind != b.Kind then k_ false
 else bif a.eb != b.eb then k_ false
 else bif a.XA != b.XA then k_ false
 else bif a.EA != b.EA then k_ false
 else bif a.I5 != b.I5 then k_ false
 else bif a.MY != b.MY then k_ false
 else bif a.Action != b.Action then k_ false
 else bif a.Queue != b.Queue then k_ false
 else k_ true
theorem akl {α:Type} (k_:Bool→α) (a:cZ) (b:cZ) (bT:WtL cZ.ct a.enc) (lX:WtL cZ.ct b.enc) (hok:same a b=true):Lb k_ a b=k_ (cV a b):=by
 obtain rfl:=dU hok
 simp only[Lb,cY,cV,bne_self_eq_false,beq_self_eq_true,Bool.not_true,cond_false,cond_true,ah,ao]
def Gr {α:Type} (bad:α) (k_:Bool→α) (a:aI) (b:aI):α:=
 bif a.G3 != b.G3 then k_ false
 else bif !(a.bA==b.bA) then k_ false
 else bif ak true (same a.cW b.cW) then
   bif !(cV a.cW b.cW) then k_ false
   else k_ true
  else bad
theorem adT {α:Type} (bad:α) (k_:Bool→α) (a:aI) (b:aI) (bT:WtL aI.ct a.enc) (lX:WtL aI.ct b.enc) (hok:same a b=true):Gr bad k_ a b=k_ (cV a b):=by
 obtain rfl:=dU hok
 simp only[Gr,cY,cV,bne_self_eq_false,beq_self_eq_true,Bool.not_true,cond_false,cond_true,ah,ao]
def Lc {α:Type} (k_:Bool→α) (a:bh) (b:bh):α:=
 bif a.Kind != b.Kind then k_ false
 else bif a.eb != b.eb then k_ false
 else bif a.fb != b.fb then k_ false
 else bif a.dt != b.dt then k_ false
 else bif a.du != b.du then k_ false
 else k_ true
theorem ako {α:Type} (k_:Bool→α) (a:bh) (b:bh) (bT:WtL bh.ct a.enc) (lX:WtL bh.ct b.enc) (hok:same a b=true):Lc k_ a b=k_ (cV a b):=by
 obtain rfl:=dU hok
 simp only[Lc,cY,cV,bne_self_eq_false,beq_self_eq_true,Bool.not_true,cond_false,cond_true,ah,ao]
def Le {α:Type} (bad:α) (k_:Bool→α) (a:dW) (b:dW):α:=
 bif a.State != b.State then k_ false
 else bif ak true (same a.I4 b.I4) then
   bif !(cV a.I4 b.I4) then k_ false
   else bif a.Queue != b.Queue then k_ false
   else k_ true
  else bad
theorem aks {α:Type} (bad:α) (k_:Bool→α) (a:dW) (b:dW) (bT:WtL dW.ct a.enc) (lX:WtL dW.ct b.enc) (hok:same a b=true):Le bad k_ a b=k_ (cV a b):=by
 obtain rfl:=dU hok
 simp only[Le,cY,cV,bne_self_eq_false,beq_self_eq_true,Bool.not_true,cond_false,cond_true,ah,ao]
def Gt {α:Type} (bad:α) (k_:Bool→α) (a:aK) (b:aK):α:=
 bif ak true (same a.dm b.dm) then
  bif !(cV a.dm b.dm) then k_ false
  else k_ true
 else bad
theorem adX {α:Type} (bad:α) (k_:Bool→α) (a:aK) (b:aK) (bT:WtL aK.ct a.enc) (lX:WtL aK.ct b.enc) (hok:same a b=true):Gt bad k_ a b=k_ (cV a b):=by
 obtain rfl:=dU hok
 simp only[Gt,cY,cV,bne_self_eq_false,beq_self_eq_true,Bool.not_true,cond_false,cond_true,ah,ao]
def uD {α:Type} (bad:α) (k_:Bool→α) (a:Rows) (b:Rows) (bZ:Int→α) (i:Int):α:=
 bif decide (i<len a) then
  bif ak (ak (ak true (idx i a)) (idx i b)) (same (cZ.ae (nth a (Int.toNat i)) 0) (cZ.ae (nth b (Int.toNat i)) 0)) then
   bif !(cV (cZ.ae (nth a (Int.toNat i)) 0) (cZ.ae (nth b (Int.toNat i)) 0)) then k_ false
   else bZ (w64 (i+1))
  else bad
 else k_ true
def ph {α:Type} (bad:α) (k_:Bool→α) (N:Nat) (a:Rows) (b:Rows) (m_:Nat):Int→α:=
 Nat.rec (motive:=fun _=>Int→α) (fun _=>bad) (fun _ bZ=>uD bad k_ a b bZ) m_
theorem Ks {α:Type} (bad:α) (k_:Bool→α) (N:Nat) (a:Rows) (b:Rows) (m_:Nat) (i:Int):ph bad k_ N a b (m_+1) i=uD bad k_ a b (ph bad k_ N a b m_) i:=rfl
def CH {α:Type} (bad:α) (k_:Bool→α) (l0:Int→α) (a:Rows) (b:Rows):α:=
 bif (len a) != (len b) then k_ false
 else l0 0
def CG {α:Type} (bad:α) (k_:Bool→α) (N:Nat) (a:Rows) (b:Rows):α:=CH bad k_ (ph bad k_ N a b N) a b
theorem ahm {α:Type} (bad:α) (k_:Bool→α) (a:Rows) (b:Rows) (bT:WtC (.sl [.int .i64,.int .i64,.int .i64,.int .i64,.int .i64,.int .i64,.int .i64,.int .i64,.int .i64]) (.sl a)) (lX:WtC (.sl [.int .i64,.int .i64,.int .i64,.int .i64,.int .i64,.int .i64,.int .i64,.int .i64,.int .i64]) (.sl b)) (hok:same a b=true):∃N,CG bad k_ N a b=k_ (cV a b):=by
 obtain rfl:=dU hok
 obtain⟨hl,_⟩:=cU bT
 refine⟨a.length+1, ?_⟩
 unfold CG CH
 simp only[bne_self_eq_false,cond_false]
 refine (dQ a (ph bad k_ (a.length+1) a a) (fun _ _ c=>c) (k_ true) ?_ ?_).trans (Dq _ _ _)
 ·intro n i h
  rw[Ks]
  simp only[uD,ch h,bw h,bu h hl,Int.toNat_natCast,ah,ao,cond_true,cond_false,bne_self_eq_false,beq_self_eq_true,Bool.not_true,cY,cV]
 ·intro n
  rw[Ks]
  simp only[uD,aQ,cond_false]
def zg {α:Type} (bad:α) (k_:df→α) (a:df):α:=
 bif ak true (sm a.DA) then
  k_ (⟨a.ame,a.aL,ca a.DA⟩:df)
 else bad
def jE (a:df):Bool:=zg false (fun _=>true) a
theorem akw {α:Type} (bad:α) (k_:df→α) (a:df) (bT:WtL df.ct a.enc) (hok:jE a=true):zg bad k_ a=k_ (ca a):=by
 exact eJ (fun _=>rfl) hok
def NL {α:Type} (k_:aC→α) (a:aC):α:=
 k_ a
theorem ad3 {α:Type} (k_:aC→α) (a:aC) (bT:WtL aC.ct a.enc):NL k_ a=k_ (ca a):=by
 rfl
def qp {α:Type} (bad:α) (k_:Rows→α) (a:Rows) (bZ:Int→Rows→α) (i:Int) (az:Rows):α:=
 bif decide (i<len a) then
  bif ak (ak (ak true (idx i a)) (idx i az)) (inl (Int.toNat i) az) then
   bZ (w64 (i+1)) (List.set az (Int.toNat i) (aD (nth az (Int.toNat i)) 0 (aC.enc (ca (aC.ae (nth a (Int.toNat i)) 0)))))
  else bad
 else k_ az
def kD {α:Type} (bad:α) (k_:Rows→α) (N:Nat) (a:Rows) (m_:Nat):Int→Rows→α:=
 Nat.rec (motive:=fun _=>Int→Rows→α) (fun _ _=>bad) (fun _ bZ=>qp bad k_ a bZ) m_
theorem Hk {α:Type} (bad:α) (k_:Rows→α) (N:Nat) (a:Rows) (m_:Nat) (i:Int) (az:Rows):kD bad k_ N a (m_+1) i az=qp bad k_ a (kD bad k_ N a m_) i az:=rfl
def yb {α:Type} (bad:α) (k_:Rows→α) (l0:Int→Rows→α) (a:Rows):α:=
 bif ak true (makeOk 40 (len a) (len a)) then
  l0 0 (List.replicate (Int.toNat (len a)) ([.int 0,.int 0,.int 0,.int 0,.bool false,.bool false]:List DC))
 else bad
def ya {α:Type} (bad:α) (k_:Rows→α) (N:Nat) (a:Rows):α:=yb bad k_ (kD bad k_ N a N) a
theorem ZT {α:Type} (bad:α) (k_:Rows→α) (a:Rows) (bT:WtC (.sl [.int .i64,.int .i64,.int .i64,.int .i64,.bool,.bool]) (.sl a)) (hok:sm a=true):∃N,ya bad k_ N a=k_ (ca a):=by
 obtain⟨hl,hw⟩:=cU bT
 have hsm:=hok
 refine⟨a.length+1, ?_⟩
 unfold ya yb
 have e0:Int.toNat (len a)=a.length:=by simp [len]
 simp only[Dr hsm (show 40≤8388608 by omega),ah,cond_true,e0]
 refine wO a (kD bad k_ (a.length+1) a) k_ [.int 0,.int 0,.int 0,.int 0,.bool false,.bool false] (fun o r=>aD o 0 (aC.enc (ca (aC.ae r 0)))) ?_ ?_ ?_
 ·intro n i out h ho
  rw[Hk]
  simp only[qp,ch h,bw h,Dt ho h,eI (show i<out.length by omega),bu h hl,Int.toNat_natCast,Bool.and_true,ah,ao,cond_true]
  try rfl
 ·intro n out ho
  rw[Hk]
  simp only[qp,aQ,cond_false]
 ·intro r hr
  refine (fw ?_).trans ?_
  ·rfl
  ·exact aC.eta (hw r hr)
def Sq {α:Type} (k_:cf→α) (a:cf):α:=
 k_ a
theorem akz {α:Type} (k_:cf→α) (a:cf) (bT:WtL cf.ct a.enc):Sq k_ a=k_ (ca a):=by
 rfl
def zj {α:Type} (k_:ay→α) (a:ay):α:=
 k_ a
theorem Lj {α:Type} (k_:ay→α) (a:ay) (bT:WtL ay.ct a.enc):zj k_ a=k_ (ca a):=by
 rfl
def LU {α:Type} (k_:bk→α) (a:bk):α:=
 k_ a
theorem ZX {α:Type} (k_:bk→α) (a:bk) (bT:WtL bk.ct a.enc):LU k_ a=k_ (ca a):=by
 rfl
def NP {α:Type} (k_:bG→α) (a:bG):α:=
 k_ (⟨a.I2,a.I3,a.MY,a.Tos,a.Id,a.Ttl,a.eb,a.fb,ca a.Bj⟩:bG)
theorem ad7 {α:Type} (k_:bG→α) (a:bG) (bT:WtL bG.ct a.enc):NP k_ a=k_ (ca a):=by
 rfl
def Pg {α:Type} (k_:dh→α) (a:dh):α:=
 k_ (⟨ca a.cN,a.bB,a.Count⟩:dh)
theorem ahq {α:Type} (k_:dh→α) (a:dh) (bT:WtL dh.ct a.enc):Pg k_ a=k_ (ca a):=by
 rfl
def LX {α:Type} (k_:aS→α) (a:aS):α:=
 k_ (⟨ca a.Ring,ca a.Device,ca a.Driver,ca a.fh,a.Qq,a.Qr⟩:aS)
theorem Z1 {α:Type} (k_:aS→α) (a:aS) (bT:WtL aS.ct a.enc):LX k_ a=k_ (ca a):=by
 rfl
def nQ {α:Type} (bad:α) (k_:Rows→α) (a:Rows) (bZ:Int→Rows→α) (i:Int) (az:Rows):α:=
 bif decide (i<len a) then
  bif ak (ak (ak true (idx i a)) (idx i az)) (inl (Int.toNat i) az) then
   bZ (w64 (i+1)) (List.set az (Int.toNat i) (aD (nth az (Int.toNat i)) 0 (aS.enc (ca (aS.ae (nth a (Int.toNat i)) 0)))))
  else bad
 else k_ az
def i5 {α:Type} (bad:α) (k_:Rows→α) (N:Nat) (a:Rows) (m_:Nat):Int→Rows→α:=
 Nat.rec (motive:=fun _=>Int→Rows→α) (fun _ _=>bad) (fun _ bZ=>nQ bad k_ a bZ) m_
theorem FT {α:Type} (bad:α) (k_:Rows→α) (N:Nat) (a:Rows) (m_:Nat) (i:Int) (az:Rows):i5 bad k_ N a (m_+1) i az=nQ bad k_ a (i5 bad k_ N a m_) i az:=rfl
def vx {α:Type} (bad:α) (k_:Rows→α) (l0:Int→Rows→α) (a:Rows):α:=
 bif ak true (makeOk 248 (len a) (len a)) then
  l0 0 (List.replicate (Int.toNat (len a)) (([.int 0,.int 0,.int 0,.int 0,.int 0,.int 0,.int 0,.int 0,.int 0,.int 0,.int 0,.int 0,.int 0,.int 0,.int 0,.int 0,.int 0,.int 0,.int 0,.int 0,.int 0,.int 0,.int 0,.int 0,.int 0,.str [],.int 0,.int 0,.bool false,.int 0]):List DC))
 else bad
def vw {α:Type} (bad:α) (k_:Rows→α) (N:Nat) (a:Rows):α:=vx bad k_ (i5 bad k_ N a N) a
theorem WV {α:Type} (bad:α) (k_:Rows→α) (a:Rows) (bT:WtC (.sl [.int .i64,.int .i64,.int .i64,.int .i64,.int .i64,.int .i64,.int .i64,.int .i64,.int .i64,.int .i64,.int .i64,.int .i64,.int .i64,.int .i64,.int .i64,.int .i64,.int .i64,.int .i64,.int .i64,.int .i64,.int .i64,.int .i64,.int .i64,.int .i64,.int .i64,.str,.int .i64,.int .i64,.bool,.int .i64]) (.sl a)) (hok:sm a=true):∃N,vw bad k_ N a=k_ (ca a):=by
 obtain⟨hl,hw⟩:=cU bT
 have hsm:=hok
 refine⟨a.length+1, ?_⟩
 unfold vw vx
 have e0:Int.toNat (len a)=a.length:=by simp [len]
 simp only[Dr hsm (show 248≤8388608 by omega),ah,cond_true,e0]
 refine wO a (i5 bad k_ (a.length+1) a) k_ [.int 0,.int 0,.int 0,.int 0,.int 0,.int 0,.int 0,.int 0,.int 0,.int 0,.int 0,.int 0,.int 0,.int 0,.int 0,.int 0,.int 0,.int 0,.int 0,.int 0,.int 0,.int 0,.int 0,.int 0,.int 0,.str [],.int 0,.int 0,.bool false,.int 0] (fun o r=>aD o 0 (aS.enc (ca (aS.ae r 0)))) ?_ ?_ ?_
 ·intro n i out h ho
  rw[FT]
  simp only[nQ,ch h,bw h,Dt ho h,eI (show i<out.length by omega),bu h hl,Int.toNat_natCast,Bool.and_true,ah,ao,cond_true]
  try rfl
 ·intro n out ho
  rw[FT]
  simp only[nQ,aQ,cond_false]
 ·intro r hr
  refine (fw ?_).trans ?_
  ·rfl
  ·exact aS.eta (hw r hr)
def qs {α:Type} (bad:α) (k_:Rows→α) (a:Rows) (bZ:Int→Rows→α) (i:Int) (az:Rows):α:=
 bif decide (i<len a) then
  bif ak (ak (ak true (idx i a)) (idx i az)) (inl (Int.toNat i) az) then
   bZ (w64 (i+1)) (List.set az (Int.toNat i) (aD (nth az (Int.toNat i)) 0 [.str (rS (nth a (Int.toNat i)) 0)]))
  else bad
 else k_ az
def kG {α:Type} (bad:α) (k_:Rows→α) (N:Nat) (a:Rows) (m_:Nat):Int→Rows→α:=
 Nat.rec (motive:=fun _=>Int→Rows→α) (fun _ _=>bad) (fun _ bZ=>qs bad k_ a bZ) m_
theorem Hl {α:Type} (bad:α) (k_:Rows→α) (N:Nat) (a:Rows) (m_:Nat) (i:Int) (az:Rows):kG bad k_ N a (m_+1) i az=qs bad k_ a (kG bad k_ N a m_) i az:=rfl
def yf {α:Type} (bad:α) (k_:Rows→α) (l0:Int→Rows→α) (a:Rows):α:=
 bif ak true (makeOk 16 (len a) (len a)) then
  l0 0 (List.replicate (Int.toNat (len a)) (([.str []]):List DC))
 else bad
def ye {α:Type} (bad:α) (k_:Rows→α) (N:Nat) (a:Rows):α:=yf bad k_ (kG bad k_ N a N) a
theorem Z4 {α:Type} (bad:α) (k_:Rows→α) (a:Rows) (bT:WtC (.sl [.str]) (.sl a)) (hok:sm a=true):∃N,ye bad k_ N a=k_ (ca a):=by
 obtain⟨hl,hw⟩:=cU bT
 have hsm:=hok
 refine⟨a.length+1, ?_⟩
 unfold ye yf
 have e0:Int.toNat (len a)=a.length:=by simp [len]
 simp only[Dr hsm (show 16≤8388608 by omega),ah,cond_true,e0]
 refine wO a (kG bad k_ (a.length+1) a) k_ [.str []] (fun o r=>aD o 0 ([.str (rS r 0)])) ?_ ?_ ?_
 ·intro n i out h ho
  rw[Hl]
  simp only[qs,ch h,bw h,Dt ho h,eI (show i<out.length by omega),bu h hl,Int.toNat_natCast,Bool.and_true,ah,ao,cond_true]
  try rfl
 ·intro n out ho
  rw[Hl]
  simp only[qs,aQ,cond_false]
 ·intro r hr
  refine (fw ?_).trans ?_
  ·rfl
  ·exact aoN (hw r hr)
def uE {α:Type} (bad:α) (k_:aK→α) (a:aK):α:=
 bif ak true (sm a.dm) then
  k_ (⟨ca a.dm⟩:aK)
 else bad
def mJ (a:aK):Bool:=uE false (fun _=>true) a
theorem aea {α:Type} (bad:α) (k_:aK→α) (a:aK) (bT:WtL aK.ct a.enc) (hok:mJ a=true):uE bad k_ a=k_ (ca a):=by
 exact eJ (fun _=>rfl) hok
def Eh {α:Type} (k_:Bool→α) (a:bk) (b:bk):α:=
 bif a.Kind != b.Kind then k_ false
 else bif a.dt != b.dt then k_ false
 else bif a.du != b.du then k_ false
 else bif a.Seq != b.Seq then k_ false
 else bif a.Ack != b.Ack then k_ false
 else bif a.Flags != b.Flags then k_ false
 else bif a.GP != b.GP then k_ false
 else bif !(a.Body==b.Body) then k_ false
 else k_ true
theorem Z8 {α:Type} (k_:Bool→α) (a:bk) (b:bk) (bT:WtL bk.ct a.enc) (lX:WtL bk.ct b.enc) (hok:same a b=true):Eh k_ a b=k_ (cV a b):=by
 obtain rfl:=dU hok
 simp only[Eh,cY,cV,bne_self_eq_false,beq_self_eq_true,Bool.not_true,cond_false,cond_true,ah,ao]
def Gy {α:Type} (bad:α) (k_:Bool→α) (a:bG) (b:bG):α:=
 bif a.I2 != b.I2 then k_ false
 else bif a.I3 != b.I3 then k_ false
 else bif a.MY != b.MY then k_ false
 else bif a.Tos != b.Tos then k_ false
 else bif a.Id != b.Id then k_ false
 else bif a.Ttl != b.Ttl then k_ false
 else bif a.eb != b.eb then k_ false
 else bif a.fb != b.fb then k_ false
 else bif ak true (same a.Bj b.Bj) then
   bif !(cV a.Bj b.Bj) then k_ false
   else k_ true
  else bad
theorem aee {α:Type} (bad:α) (k_:Bool→α) (a:bG) (b:bG) (bT:WtL bG.ct a.enc) (lX:WtL bG.ct b.enc) (hok:same a b=true):Gy bad k_ a b=k_ (cV a b):=by
 obtain rfl:=dU hok
 simp only[Gy,cY,cV,bne_self_eq_false,beq_self_eq_true,Bool.not_true,cond_false,cond_true,ah,ao]
def Iq {α:Type} (bad:α) (k_:Bool→α) (a:dh) (b:dh):α:=
 bif ak true (same a.cN b.cN) then
  bif !(cV a.cN b.cN) then k_ false
  else bif a.bB != b.bB then k_ false
  else bif a.Count != b.Count then k_ false
  else k_ true
 else bad
theorem ahu {α:Type} (bad:α) (k_:Bool→α) (a:dh) (b:dh) (bT:WtL dh.ct a.enc) (lX:WtL dh.ct b.enc) (hok:same a b=true):Iq bad k_ a b=k_ (cV a b):=by
 obtain rfl:=dU hok
 simp only[Iq,cY,cV,bne_self_eq_false,beq_self_eq_true,Bool.not_true,cond_false,cond_true,ah,ao]
def uF {α:Type} (bad:α) (k_:Bool→α) (a:Rows) (b:Rows) (bZ:Int→α) (i:Int):α:=
 bif decide (i<len a) then
  bif ak (ak (ak true (idx i a)) (idx i b)) (same (dW.ae (nth a (Int.toNat i)) 0) (dW.ae (nth b (Int.toNat i)) 0)) then
   bif !(cV (dW.ae (nth a (Int.toNat i)) 0) (dW.ae (nth b (Int.toNat i)) 0)) then k_ false
   else bZ (w64 (i+1))
  else bad
 else k_ true
def pn {α:Type} (bad:α) (k_:Bool→α) (N:Nat) (a:Rows) (b:Rows) (m_:Nat):Int→α:=
 Nat.rec (motive:=fun _=>Int→α) (fun _=>bad) (fun _ bZ=>uF bad k_ a b bZ) m_
theorem Kt {α:Type} (bad:α) (k_:Bool→α) (N:Nat) (a:Rows) (b:Rows) (m_:Nat) (i:Int):pn bad k_ N a b (m_+1) i=uF bad k_ a b (pn bad k_ N a b m_) i:=rfl
def CM {α:Type} (bad:α) (k_:Bool→α) (l0:Int→α) (a:Rows) (b:Rows):α:=
 bif (len a) != (len b) then k_ false
 else l0 0
def CL {α:Type} (bad:α) (k_:Bool→α) (N:Nat) (a:Rows) (b:Rows):α:=CM bad k_ (pn bad k_ N a b N) a b
theorem ahy {α:Type} (bad:α) (k_:Bool→α) (a:Rows) (b:Rows) (bT:WtC (.sl [.int .i64,.int .i64,.int .i64,.int .i64,.int .i64,.int .i64,.int .i64]) (.sl a)) (lX:WtC (.sl [.int .i64,.int .i64,.int .i64,.int .i64,.int .i64,.int .i64,.int .i64]) (.sl b)) (hok:same a b=true):∃N,CL bad k_ N a b=k_ (cV a b):=by
 obtain rfl:=dU hok
 obtain⟨hl,_⟩:=cU bT
 refine⟨a.length+1, ?_⟩
 unfold CL CM
 simp only[bne_self_eq_false,cond_false]
 refine (dQ a (pn bad k_ (a.length+1) a a) (fun _ _ c=>c) (k_ true) ?_ ?_).trans (Dq _ _ _)
 ·intro n i h
  rw[Kt]
  simp only[uF,ch h,bw h,bu h hl,Int.toNat_natCast,ah,ao,cond_true,cond_false,bne_self_eq_false,beq_self_eq_true,Bool.not_true,cY,cV]
 ·intro n
  rw[Kt]
  simp only[uF,aQ,cond_false]
def A2 {α:Type} (bad:α) (k_:Bool→α) (a:ag) (b:ag):α:=
 bif ak true (same a.aL b.aL) then
  bif !(cV a.aL b.aL) then k_ false
  else k_ true
 else bad
theorem T_ {α:Type} (bad:α) (k_:Bool→α) (a:ag) (b:ag) (bT:WtL ag.ct a.enc) (lX:WtL ag.ct b.enc) (hok:same a b=true):A2 bad k_ a b=k_ (cV a b):=by
 obtain rfl:=dU hok
 simp only[A2,cY,cV,bne_self_eq_false,beq_self_eq_true,Bool.not_true,cond_false,cond_true,ah,ao]
def NW {α:Type} (k_:bM→α) (a:bM):α:=
 k_ (⟨ca a.I4,a.Next,a.Data,a.arc⟩:bM)
theorem aek {α:Type} (k_:bM→α) (a:bM) (bT:WtL bM.ct a.enc):NW k_ a=k_ (ca a):=by
 rfl
def qt {α:Type} (bad:α) (k_:Rows→α) (a:Rows) (bZ:Int→Rows→α) (i:Int) (az:Rows):α:=
 bif decide (i<len a) then
  bif ak (ak (ak true (idx i a)) (idx i az)) (inl (Int.toNat i) az) then
   bZ (w64 (i+1)) (List.set az (Int.toNat i) (aD (nth az (Int.toNat i)) 0 (bM.enc (ca (bM.ae (nth a (Int.toNat i)) 0)))))
  else bad
 else k_ az
def kJ {α:Type} (bad:α) (k_:Rows→α) (N:Nat) (a:Rows) (m_:Nat):Int→Rows→α:=
 Nat.rec (motive:=fun _=>Int→Rows→α) (fun _ _=>bad) (fun _ bZ=>qt bad k_ a bZ) m_
theorem Hm {α:Type} (bad:α) (k_:Rows→α) (N:Nat) (a:Rows) (m_:Nat) (i:Int) (az:Rows):kJ bad k_ N a (m_+1) i az=qt bad k_ a (kJ bad k_ N a m_) i az:=rfl
def yj {α:Type} (bad:α) (k_:Rows→α) (l0:Int→Rows→α) (a:Rows):α:=
 bif ak true (makeOk 72 (len a) (len a)) then
  l0 0 (List.replicate (Int.toNat (len a)) (([.int 0,.int 0,.int 0,.int 0,.int 0,.int 0,.str [],.bool false]):List DC))
 else bad
def yi {α:Type} (bad:α) (k_:Rows→α) (N:Nat) (a:Rows):α:=yj bad k_ (kJ bad k_ N a N) a
theorem aab {α:Type} (bad:α) (k_:Rows→α) (a:Rows) (bT:WtC (.sl [.int .i64,.int .i64,.int .i64,.int .i64,.int .i64,.int .i64,.str,.bool]) (.sl a)) (hok:sm a=true):∃N,yi bad k_ N a=k_ (ca a):=by
 obtain⟨hl,hw⟩:=cU bT
 have hsm:=hok
 refine⟨a.length+1, ?_⟩
 unfold yi yj
 have e0:Int.toNat (len a)=a.length:=by simp [len]
 simp only[Dr hsm (show 72≤8388608 by omega),ah,cond_true,e0]
 refine wO a (kJ bad k_ (a.length+1) a) k_ [.int 0,.int 0,.int 0,.int 0,.int 0,.int 0,.str [],.bool false] (fun o r=>aD o 0 (bM.enc (ca (bM.ae r 0)))) ?_ ?_ ?_
 ·intro n i out h ho
  rw[Hm]
  simp only[qt,ch h,bw h,Dt ho h,eI (show i<out.length by omega),bu h hl,Int.toNat_natCast,Bool.and_true,ah,ao,cond_true]
  try rfl
 ·intro n out ho
  rw[Hm]
  simp only[qt,aQ,cond_false]
 ·intro r hr
  refine (fw ?_).trans ?_
  ·rfl
  ·exact bM.eta (hw r hr)
def uU {α:Type} (bad:α) (k_:aJ→α) (a:aJ):α:=
 bif ak true (sm a.dn) then
  k_ (⟨a.cP,a.bB,a.Count,ca a.dn⟩:aJ)
 else bad
def fF (a:aJ):Bool:=uU false (fun _=>true) a
theorem akC {α:Type} (bad:α) (k_:aJ→α) (a:aJ) (bT:WtL aJ.ct a.enc) (hok:fF a=true):uU bad k_ a=k_ (ca a):=by
 exact eJ (fun _=>rfl) hok
def uG {α:Type} (bad:α) (k_:Rows→α) (a:Rows) (bZ:Int→Rows→α) (i:Int) (az:Rows):α:=
 bif decide (i<len a) then
  bif ak (ak (ak (ak true (idx i a)) (jE (df.ae (nth a (Int.toNat i)) 0))) (idx i az)) ((inl (Int.toNat i) az) && true) then
   bZ (w64 (i+1)) (List.set az (Int.toNat i) (aD (nth az (Int.toNat i)) 0 (df.enc (ca (df.ae (nth a (Int.toNat i)) 0)))))
  else bad
 else k_ az
def pr {α:Type} (bad:α) (k_:Rows→α) (N:Nat) (a:Rows) (m_:Nat):Int→Rows→α:=
 Nat.rec (motive:=fun _=>Int→Rows→α) (fun _ _=>bad) (fun _ bZ=>uG bad k_ a bZ) m_
theorem Ku {α:Type} (bad:α) (k_:Rows→α) (N:Nat) (a:Rows) (m_:Nat) (i:Int) (az:Rows):pr bad k_ N a (m_+1) i az=uG bad k_ a (pr bad k_ N a m_) i az:=rfl
def CQ {α:Type} (bad:α) (k_:Rows→α) (l0:Int→Rows→α) (a:Rows):α:=
 bif ak true (makeOk 40 (len a) (len a)) then
  l0 0 (List.replicate (Int.toNat (len a)) (([.int 0,.int 0,.sl []]):List DC))
 else bad
def CP {α:Type} (bad:α) (k_:Rows→α) (N:Nat) (a:Rows):α:=CQ bad k_ (pr bad k_ N a N) a
def ik (a:Rows):Bool:=sm a && a.all fun r=>jE (df.ae r 0)
theorem ahC {α:Type} (bad:α) (k_:Rows→α) (a:Rows) (bT:WtC (.sl [.int .i64,.int .i64,.sl [.int .i64]]) (.sl a)) (hok:ik a=true):∃N,CP bad k_ N a=k_ (ca a):=by
 obtain⟨hl,hw⟩:=cU bT
 simp only[ik,Bool.and_eq_true,List.all_eq_true] at hok
 obtain⟨hsm,hel⟩:=hok
 refine⟨a.length+1, ?_⟩
 unfold CP CQ
 have e0:Int.toNat (len a)=a.length:=by simp [len]
 simp only[Dr hsm (show 40≤8388608 by omega),ah,cond_true,e0]
 refine wO a (pr bad k_ (a.length+1) a) k_ [.int 0,.int 0,.sl []] (fun o r=>aD o 0 (df.enc (ca (df.ae r 0)))) ?_ ?_ ?_
 ·intro n i out h ho
  have he2:=hel (nth a i) (gK h)
  rw[Ku]
  simp only[uG,ch h,bw h,Dt ho h,eI (show i<out.length by omega),bu h hl,Int.toNat_natCast,Bool.and_true,ah,ao,cond_true,he2]
  try rfl
 ·intro n out ho
  rw[Ku]
  simp only[uG,aQ,cond_false]
 ·intro r hr
  refine (fw ?_).trans ?_
  ·rfl
  ·exact df.eta (hw r hr)
def sr {α:Type} (bad:α) (k_:au→α) (a:au):α:=
 bif ak true (fF a.a_) then
  bif ak true (ik a.aG) then
   k_ (⟨ca a.Ring,ca a.a_,ca a.aG,a.Next⟩:au)
  else bad
 else bad
def kK (a:au):Bool:=sr false (fun _=>true) a
theorem aaf {α:Type} (bad:α) (k_:au→α) (a:au) (bT:WtL au.ct a.enc) (hok:kK a=true):sr bad k_ a=k_ (ca a):=by
 exact eJ (eJ (fun _=>rfl)) hok
def uH {α:Type} (bad:α) (k_:Rows→α) (a:Rows) (bZ:Int→Rows→α) (i:Int) (az:Rows):α:=
 bif decide (i<len a) then
  bif ak (ak (ak (ak true (idx i a)) (fF (aJ.ae (nth a (Int.toNat i)) 0))) (idx i az)) ((inl (Int.toNat i) az) && true) then
   bZ (w64 (i+1)) (List.set az (Int.toNat i) (aD (nth az (Int.toNat i)) 0 (aJ.enc (ca (aJ.ae (nth a (Int.toNat i)) 0)))))
  else bad
 else k_ az
def py {α:Type} (bad:α) (k_:Rows→α) (N:Nat) (a:Rows) (m_:Nat):Int→Rows→α:=
 Nat.rec (motive:=fun _=>Int→Rows→α) (fun _ _=>bad) (fun _ bZ=>uH bad k_ a bZ) m_
theorem Kv {α:Type} (bad:α) (k_:Rows→α) (N:Nat) (a:Rows) (m_:Nat) (i:Int) (az:Rows):py bad k_ N a (m_+1) i az=uH bad k_ a (py bad k_ N a m_) i az:=rfl
def CV {α:Type} (bad:α) (k_:Rows→α) (l0:Int→Rows→α) (a:Rows):α:=
 bif ak true (makeOk 48 (len a) (len a)) then
  l0 0 (List.replicate (Int.toNat (len a)) (([.int 0,.int 0,.int 0,.sl []]):List DC))
 else bad
def CU {α:Type} (bad:α) (k_:Rows→α) (N:Nat) (a:Rows):α:=CV bad k_ (py bad k_ N a N) a
def lr (a:Rows):Bool:=sm a && a.all fun r=>fF (aJ.ae r 0)
theorem ahG {α:Type} (bad:α) (k_:Rows→α) (a:Rows) (bT:WtC (.sl [.int .i64,.int .i64,.int .i64,.sl [.int .i64]]) (.sl a)) (hok:lr a=true):∃N,CU bad k_ N a=k_ (ca a):=by
 obtain⟨hl,hw⟩:=cU bT
 simp only[lr,Bool.and_eq_true,List.all_eq_true] at hok
 obtain⟨hsm,hel⟩:=hok
 refine⟨a.length+1, ?_⟩
 unfold CU CV
 have e0:Int.toNat (len a)=a.length:=by simp [len]
 simp only[Dr hsm (show 48≤8388608 by omega),ah,cond_true,e0]
 refine wO a (py bad k_ (a.length+1) a) k_ [.int 0,.int 0,.int 0,.sl []] (fun o r=>aD o 0 (aJ.enc (ca (aJ.ae r 0)))) ?_ ?_ ?_
 ·intro n i out h ho
  have he2:=hel (nth a i) (gK h)
  rw[Kv]
  simp only[uH,ch h,bw h,Dt ho h,eI (show i<out.length by omega),bu h hl,Int.toNat_natCast,Bool.and_true,ah,ao,cond_true,he2]
  try rfl
 ·intro n out ho
  rw[Kv]
  simp only[uH,aQ,cond_false]
 ·intro r hr
  refine (fw ?_).trans ?_
  ·rfl
  ·exact aJ.eta (hw r hr)
def uI {α:Type} (bad:α) (k_:Rows→α) (a:Rows) (bZ:Int→Rows→α) (i:Int) (az:Rows):α:=
 bif decide (i<len a) then
  bif ak (ak (ak true (idx i a)) (idx i az)) (inl (Int.toNat i) az) then
   bZ (w64 (i+1)) (List.set az (Int.toNat i) (aD (nth az (Int.toNat i)) 0 [.bool (rB (nth a (Int.toNat i)) 0)]))
  else bad
 else k_ az
def pB {α:Type} (bad:α) (k_:Rows→α) (N:Nat) (a:Rows) (m_:Nat):Int→Rows→α:=
 Nat.rec (motive:=fun _=>Int→Rows→α) (fun _ _=>bad) (fun _ bZ=>uI bad k_ a bZ) m_
theorem Kw {α:Type} (bad:α) (k_:Rows→α) (N:Nat) (a:Rows) (m_:Nat) (i:Int) (az:Rows):pB bad k_ N a (m_+1) i az=uI bad k_ a (pB bad k_ N a m_) i az:=rfl
def CZ {α:Type} (bad:α) (k_:Rows→α) (l0:Int→Rows→α) (a:Rows):α:=
 bif ak true (makeOk 1 (len a) (len a)) then
  l0 0 (List.replicate (Int.toNat (len a)) ([.bool false]:List DC))
 else bad
def CY {α:Type} (bad:α) (k_:Rows→α) (N:Nat) (a:Rows):α:=CZ bad k_ (pB bad k_ N a N) a
theorem ahK {α:Type} (bad:α) (k_:Rows→α) (a:Rows) (bT:WtC (.sl [.bool]) (.sl a)) (hok:sm a=true):∃N,CY bad k_ N a=k_ (ca a):=by
 obtain⟨hl,hw⟩:=cU bT
 have hsm:=hok
 refine⟨a.length+1, ?_⟩
 unfold CY CZ
 have e0:Int.toNat (len a)=a.length:=by simp [len]
 simp only[Dr hsm (show 1≤8388608 by omega),ah,cond_true,e0]
 refine wO a (pB bad k_ (a.length+1) a) k_ [.bool false] (fun o r=>aD o 0 ([.bool (rB r 0)])) ?_ ?_ ?_
 ·intro n i out h ho
  rw[Kw]
  simp only[uI,ch h,bw h,Dt ho h,eI (show i<out.length by omega),bu h hl,Int.toNat_natCast,Bool.and_true,ah,ao,cond_true]
  try rfl
 ·intro n out ho
  rw[Kw]
  simp only[uI,aQ,cond_false]
 ·intro r hr
  refine (fw ?_).trans ?_
  ·rfl
  ·exact apK (hw r hr)
def uJ {α:Type} (bad:α) (k_:aI→α) (a:aI):α:=
 bif ak true (sm a.cW) then
  k_ (⟨a.G3,a.bA,ca a.cW⟩:aI)
 else bad
def mK (a:aI):Bool:=uJ false (fun _=>true) a
theorem aeu {α:Type} (bad:α) (k_:aI→α) (a:aI) (bT:WtL aI.ct a.enc) (hok:mK a=true):uJ bad k_ a=k_ (ca a):=by
 exact eJ (fun _=>rfl) hok
def JZ {α:Type} (k_:bC→α) (a:bC):α:=
 k_ a
theorem W3 {α:Type} (k_:bC→α) (a:bC) (bT:WtL bC.ct a.enc):JZ k_ a=k_ (ca a):=by
 rfl
def zk {α:Type} (bad:α) (k_:aB→α) (a:aB):α:=
 bif ak true (mJ a.bV) then
  bif ak true (sm a.Maps) then
   bif ak true (kK a.Tx) then
    bif ak true (sm a.Rx) then
     bif ak true (lr a.bN) then
      bif ak true (sm a.aY) then
       bif ak true (sm a.cj) then
        bif ak true (mK a.Filter) then
         bif ak true (iT a.aj) then
          bif ak true (sm a.cO) then
           bif ak true (sm a.ic) then
            bif ak true (sm a.bK) then
             bif ak true (sm a.b_) then
              k_ (⟨ca a.bV,ca a.Maps,ca a.Tx,ca a.Rx,ca a.bN,ca a.aY,ca a.cj,ca a.Filter,ca a.aj,ca a.cO,a.dp,ca a.ic,ca a.bK,ca a.b_,ca a.Counters⟩:aB)
             else bad
            else bad
           else bad
          else bad
         else bad
        else bad
       else bad
      else bad
     else bad
    else bad
   else bad
  else bad
 else bad
def gH (a:aB):Bool:=zk false (fun _=>true) a
theorem akF {α:Type} (bad:α) (k_:aB→α) (a:aB) (bT:WtL aB.ct a.enc) (hok:gH a=true):zk bad k_ a=k_ (ca a):=by
 exact eJ (eJ (eJ (eJ (eJ (eJ (eJ (eJ (eJ (eJ (eJ (eJ (eJ (fun _=>rfl))))))))))))) hok
def Lk {α:Type} (k_:Bool→α) (a:cf) (b:cf):α:=
 bif a.cP != b.cP then k_ false
 else bif a.bB != b.bB then k_ false
 else bif a.Head != b.Head then k_ false
 else bif a.fk != b.fk then k_ false
 else k_ true
theorem akI {α:Type} (k_:Bool→α) (a:cf) (b:cf) (bT:WtL cf.ct a.enc) (lX:WtL cf.ct b.enc) (hok:same a b=true):Lk k_ a b=k_ (cV a b):=by
 obtain rfl:=dU hok
 simp only[Lk,cY,cV,bne_self_eq_false,beq_self_eq_true,Bool.not_true,cond_false,cond_true,ah,ao]
def Ek {α:Type} (bad:α) (k_:Bool→α) (a:aS) (b:aS):α:=
 bif ak true (same a.Ring b.Ring) then
  bif !(cV a.Ring b.Ring) then k_ false
  else bif ak true (same a.Device b.Device) then
    bif !(cV a.Device b.Device) then k_ false
    else bif ak true (same a.Driver b.Driver) then
      bif !(cV a.Driver b.Driver) then k_ false
      else bif ak true (same a.fh b.fh) then
        bif !(cV a.fh b.fh) then k_ false
        else bif !(a.Qq==b.Qq) then k_ false
        else bif a.Qr != b.Qr then k_ false
        else k_ true
       else bad
     else bad
   else bad
 else bad
theorem aaj {α:Type} (bad:α) (k_:Bool→α) (a:aS) (b:aS) (bT:WtL aS.ct a.enc) (lX:WtL aS.ct b.enc) (hok:same a b=true):Ek bad k_ a b=k_ (cV a b):=by
 obtain rfl:=dU hok
 simp only[Ek,cY,cV,bne_self_eq_false,beq_self_eq_true,Bool.not_true,cond_false,cond_true,ah,ao]
def nV {α:Type} (bad:α) (k_:Bool→α) (a:Rows) (b:Rows) (bZ:Int→α) (i:Int):α:=
 bif decide (i<len a) then
  bif ak (ak (ak true (idx i a)) (idx i b)) (same (aS.ae (nth a (Int.toNat i)) 0) (aS.ae (nth b (Int.toNat i)) 0)) then
   bif !(cV (aS.ae (nth a (Int.toNat i)) 0) (aS.ae (nth b (Int.toNat i)) 0)) then k_ false
   else bZ (w64 (i+1))
  else bad
 else k_ true
def ja {α:Type} (bad:α) (k_:Bool→α) (N:Nat) (a:Rows) (b:Rows) (m_:Nat):Int→α:=
 Nat.rec (motive:=fun _=>Int→α) (fun _=>bad) (fun _ bZ=>nV bad k_ a b bZ) m_
theorem FU {α:Type} (bad:α) (k_:Bool→α) (N:Nat) (a:Rows) (b:Rows) (m_:Nat) (i:Int):ja bad k_ N a b (m_+1) i=nV bad k_ a b (ja bad k_ N a b m_) i:=rfl
def vB {α:Type} (bad:α) (k_:Bool→α) (l0:Int→α) (a:Rows) (b:Rows):α:=
 bif (len a) != (len b) then k_ false
 else l0 0
def vA {α:Type} (bad:α) (k_:Bool→α) (N:Nat) (a:Rows) (b:Rows):α:=vB bad k_ (ja bad k_ N a b N) a b
theorem W7 {α:Type} (bad:α) (k_:Bool→α) (a:Rows) (b:Rows) (bT:WtC (.sl [.int .i64,.int .i64,.int .i64,.int .i64,.int .i64,.int .i64,.int .i64,.int .i64,.int .i64,.int .i64,.int .i64,.int .i64,.int .i64,.int .i64,.int .i64,.int .i64,.int .i64,.int .i64,.int .i64,.int .i64,.int .i64,.int .i64,.int .i64,.int .i64,.int .i64,.str,.int .i64,.int .i64,.bool,.int .i64]) (.sl a)) (lX:WtC (.sl [.int .i64,.int .i64,.int .i64,.int .i64,.int .i64,.int .i64,.int .i64,.int .i64,.int .i64,.int .i64,.int .i64,.int .i64,.int .i64,.int .i64,.int .i64,.int .i64,.int .i64,.int .i64,.int .i64,.int .i64,.int .i64,.int .i64,.int .i64,.int .i64,.int .i64,.str,.int .i64,.int .i64,.bool,.int .i64]) (.sl b)) (hok:same a b=true):∃N,vA bad k_ N a b=k_ (cV a b):=by
 obtain rfl:=dU hok
 obtain⟨hl,_⟩:=cU bT
 refine⟨a.length+1, ?_⟩
 unfold vA vB
 simp only[bne_self_eq_false,cond_false]
 refine (dQ a (ja bad k_ (a.length+1) a a) (fun _ _ c=>c) (k_ true) ?_ ?_).trans (Dq _ _ _)
 ·intro n i h
  rw[FU]
  simp only[nV,ch h,bw h,bu h hl,Int.toNat_natCast,ah,ao,cond_true,cond_false,bne_self_eq_false,beq_self_eq_true,Bool.not_true,cY,cV]
 ·intro n
  rw[FU]
  simp only[nV,aQ,cond_false]
def GD {α:Type} (bad:α) (k_:Bool→α) (a:bM) (b:bM):α:=
 bif ak true (same a.I4 b.I4) then
  bif !(cV a.I4 b.I4) then k_ false
  else bif a.Next != b.Next then k_ false
  else bif !(a.Data==b.Data) then k_ false
  else bif !(a.arc==b.arc) then k_ false
  else k_ true
 else bad
theorem aey {α:Type} (bad:α) (k_:Bool→α) (a:bM) (b:bM) (bT:WtL bM.ct a.enc) (lX:WtL bM.ct b.enc) (hok:same a b=true):GD bad k_ a b=k_ (cV a b):=by
 obtain rfl:=dU hok
 simp only[GD,cY,cV,bne_self_eq_false,beq_self_eq_true,Bool.not_true,cond_false,cond_true,ah,ao]
def qv {α:Type} (bad:α) (k_:Bool→α) (a:Rows) (b:Rows) (bZ:Int→α) (i:Int):α:=
 bif decide (i<len a) then
  bif ak (ak (ak true (idx i a)) (idx i b)) (same (bM.ae (nth a (Int.toNat i)) 0) (bM.ae (nth b (Int.toNat i)) 0)) then
   bif !(cV (bM.ae (nth a (Int.toNat i)) 0) (bM.ae (nth b (Int.toNat i)) 0)) then k_ false
   else bZ (w64 (i+1))
  else bad
 else k_ true
def kN {α:Type} (bad:α) (k_:Bool→α) (N:Nat) (a:Rows) (b:Rows) (m_:Nat):Int→α:=
 Nat.rec (motive:=fun _=>Int→α) (fun _=>bad) (fun _ bZ=>qv bad k_ a b bZ) m_
theorem Hn {α:Type} (bad:α) (k_:Bool→α) (N:Nat) (a:Rows) (b:Rows) (m_:Nat) (i:Int):kN bad k_ N a b (m_+1) i=qv bad k_ a b (kN bad k_ N a b m_) i:=rfl
def yn {α:Type} (bad:α) (k_:Bool→α) (l0:Int→α) (a:Rows) (b:Rows):α:=
 bif (len a) != (len b) then k_ false
 else l0 0
def ym {α:Type} (bad:α) (k_:Bool→α) (N:Nat) (a:Rows) (b:Rows):α:=yn bad k_ (kN bad k_ N a b N) a b
theorem aan {α:Type} (bad:α) (k_:Bool→α) (a:Rows) (b:Rows) (bT:WtC (.sl [.int .i64,.int .i64,.int .i64,.int .i64,.int .i64,.int .i64,.str,.bool]) (.sl a)) (lX:WtC (.sl [.int .i64,.int .i64,.int .i64,.int .i64,.int .i64,.int .i64,.str,.bool]) (.sl b)) (hok:same a b=true):∃N,ym bad k_ N a b=k_ (cV a b):=by
 obtain rfl:=dU hok
 obtain⟨hl,_⟩:=cU bT
 refine⟨a.length+1, ?_⟩
 unfold ym yn
 simp only[bne_self_eq_false,cond_false]
 refine (dQ a (kN bad k_ (a.length+1) a a) (fun _ _ c=>c) (k_ true) ?_ ?_).trans (Dq _ _ _)
 ·intro n i h
  rw[Hn]
  simp only[qv,ch h,bw h,bu h hl,Int.toNat_natCast,ah,ao,cond_true,cond_false,bne_self_eq_false,beq_self_eq_true,Bool.not_true,cY,cV]
 ·intro n
  rw[Hn]
  simp only[qv,aQ,cond_false]
def GG {α:Type} (bad:α) (k_:Bool→α) (a:aM) (b:aM):α:=
 bif !(a.Key==b.Key) then k_ false
 else bif ak true (same a.Table b.Table) then
   bif !(cV a.Table b.Table) then k_ false
   else k_ true
  else bad
theorem aeC {α:Type} (bad:α) (k_:Bool→α) (a:aM) (b:aM) (bT:WtL aM.ct a.enc) (lX:WtL aM.ct b.enc) (hok:same a b=true):GG bad k_ a b=k_ (cV a b):=by
 obtain rfl:=dU hok
 simp only[GG,cY,cV,bne_self_eq_false,beq_self_eq_true,Bool.not_true,cond_false,cond_true,ah,ao]
def C2 {α:Type} (bad:α) (k_:Bool→α) (a:al) (b:al):α:=
 bif ak true (same a.bW b.bW) then
  bif !(cV a.bW b.bW) then k_ false
  else bif ak true (same a.Table b.Table) then
    bif !(cV a.Table b.Table) then k_ false
    else bif ak true (same a.bj b.bj) then
      bif !(cV a.bj b.bj) then k_ false
      else k_ true
     else bad
   else bad
 else bad
theorem Xc {α:Type} (bad:α) (k_:Bool→α) (a:al) (b:al) (bT:WtL al.ct a.enc) (lX:WtL al.ct b.enc) (hok:same a b=true):C2 bad k_ a b=k_ (cV a b):=by
 obtain rfl:=dU hok
 simp only[C2,cY,cV,bne_self_eq_false,beq_self_eq_true,Bool.not_true,cond_false,cond_true,ah,ao]
def uK {α:Type} (bad:α) (k_:Bool→α) (a:Rows) (b:Rows) (bZ:Int→α) (i:Int):α:=
 bif decide (i<len a) then
  bif ak (ak true (idx i a)) (idx i b) then
   bif !((rB (nth a (Int.toNat i)) 0)==(rB (nth b (Int.toNat i)) 0)) then k_ false
   else bZ (w64 (i+1))
  else bad
 else k_ true
def pE {α:Type} (bad:α) (k_:Bool→α) (N:Nat) (a:Rows) (b:Rows) (m_:Nat):Int→α:=
 Nat.rec (motive:=fun _=>Int→α) (fun _=>bad) (fun _ bZ=>uK bad k_ a b bZ) m_
theorem Kx {α:Type} (bad:α) (k_:Bool→α) (N:Nat) (a:Rows) (b:Rows) (m_:Nat) (i:Int):pE bad k_ N a b (m_+1) i=uK bad k_ a b (pE bad k_ N a b m_) i:=rfl
def C6 {α:Type} (bad:α) (k_:Bool→α) (l0:Int→α) (a:Rows) (b:Rows):α:=
 bif (len a) != (len b) then k_ false
 else l0 0
def C5 {α:Type} (bad:α) (k_:Bool→α) (N:Nat) (a:Rows) (b:Rows):α:=C6 bad k_ (pE bad k_ N a b N) a b
theorem ahO {α:Type} (bad:α) (k_:Bool→α) (a:Rows) (b:Rows) (bT:WtC (.sl [.bool]) (.sl a)) (lX:WtC (.sl [.bool]) (.sl b)) (hok:same a b=true):∃N,C5 bad k_ N a b=k_ (cV a b):=by
 obtain rfl:=dU hok
 obtain⟨hl,_⟩:=cU bT
 refine⟨a.length+1, ?_⟩
 unfold C5 C6
 simp only[bne_self_eq_false,cond_false]
 refine (dQ a (pE bad k_ (a.length+1) a a) (fun _ _ c=>c) (k_ true) ?_ ?_).trans (Dq _ _ _)
 ·intro n i h
  rw[Kx]
  simp only[uK,ch h,bw h,bu h hl,Int.toNat_natCast,ah,ao,cond_true,cond_false,bne_self_eq_false,beq_self_eq_true,Bool.not_true,cY,cV]
 ·intro n
  rw[Kx]
  simp only[uK,aQ,cond_false]
def C8 {α:Type} (k_:Bool→α) (a:bC) (b:bC):α:=
 bif a.Frames != b.Frames then k_ false
 else bif a.KN != b.KN then k_ false
 else bif a.di != b.di then k_ false
 else bif a.dE != b.dE then k_ false
 else bif a.fC != b.fC then k_ false
 else k_ true
theorem Xg {α:Type} (k_:Bool→α) (a:bC) (b:bC) (bT:WtL bC.ct a.enc) (lX:WtL bC.ct b.enc) (hok:same a b=true):C8 k_ a b=k_ (cV a b):=by
 obtain rfl:=dU hok
 simp only[C8,cY,cV,bne_self_eq_false,beq_self_eq_true,Bool.not_true,cond_false,cond_true,ah,ao]
def Ll {α:Type} (bad:α) (k_:Bool→α) (a:aJ) (b:aJ):α:=
 bif a.cP != b.cP then k_ false
 else bif a.bB != b.bB then k_ false
 else bif a.Count != b.Count then k_ false
 else bif ak true (same a.dn b.dn) then
   bif !(cV a.dn b.dn) then k_ false
   else k_ true
  else bad
theorem akL {α:Type} (bad:α) (k_:Bool→α) (a:aJ) (b:aJ) (bT:WtL aJ.ct a.enc) (lX:WtL aJ.ct b.enc) (hok:same a b=true):Ll bad k_ a b=k_ (cV a b):=by
 obtain rfl:=dU hok
 simp only[Ll,cY,cV,bne_self_eq_false,beq_self_eq_true,Bool.not_true,cond_false,cond_true,ah,ao]
def uL {α:Type} (bad:α) (k_:Bool→α) (a:Rows) (b:Rows) (bZ:Int→α) (i:Int):α:=
 bif decide (i<len a) then
  bif ak (ak (ak true (idx i a)) (idx i b)) (same (aJ.ae (nth a (Int.toNat i)) 0) (aJ.ae (nth b (Int.toNat i)) 0)) then
   bif !(cV (aJ.ae (nth a (Int.toNat i)) 0) (aJ.ae (nth b (Int.toNat i)) 0)) then k_ false
   else bZ (w64 (i+1))
  else bad
 else k_ true
def pH {α:Type} (bad:α) (k_:Bool→α) (N:Nat) (a:Rows) (b:Rows) (m_:Nat):Int→α:=
 Nat.rec (motive:=fun _=>Int→α) (fun _=>bad) (fun _ bZ=>uL bad k_ a b bZ) m_
theorem Ky {α:Type} (bad:α) (k_:Bool→α) (N:Nat) (a:Rows) (b:Rows) (m_:Nat) (i:Int):pH bad k_ N a b (m_+1) i=uL bad k_ a b (pH bad k_ N a b m_) i:=rfl
def Db {α:Type} (bad:α) (k_:Bool→α) (l0:Int→α) (a:Rows) (b:Rows):α:=
 bif (len a) != (len b) then k_ false
 else l0 0
def Da {α:Type} (bad:α) (k_:Bool→α) (N:Nat) (a:Rows) (b:Rows):α:=Db bad k_ (pH bad k_ N a b N) a b
theorem ahS {α:Type} (bad:α) (k_:Bool→α) (a:Rows) (b:Rows) (bT:WtC (.sl [.int .i64,.int .i64,.int .i64,.sl [.int .i64]]) (.sl a)) (lX:WtC (.sl [.int .i64,.int .i64,.int .i64,.sl [.int .i64]]) (.sl b)) (hok:same a b=true):∃N,Da bad k_ N a b=k_ (cV a b):=by
 obtain rfl:=dU hok
 obtain⟨hl,_⟩:=cU bT
 refine⟨a.length+1, ?_⟩
 unfold Da Db
 simp only[bne_self_eq_false,cond_false]
 refine (dQ a (pH bad k_ (a.length+1) a a) (fun _ _ c=>c) (k_ true) ?_ ?_).trans (Dq _ _ _)
 ·intro n i h
  rw[Ky]
  simp only[uL,ch h,bw h,bu h hl,Int.toNat_natCast,ah,ao,cond_true,cond_false,bne_self_eq_false,beq_self_eq_true,Bool.not_true,cY,cV]
 ·intro n
  rw[Ky]
  simp only[uL,aQ,cond_false]
def Em {α:Type} (bad:α) (k_:Bool→α) (a:au) (b:au):α:=
 bif ak true (same a.Ring b.Ring) then
  bif !(cV a.Ring b.Ring) then k_ false
  else bif ak true (same a.a_ b.a_) then
    bif !(cV a.a_ b.a_) then k_ false
    else bif ak true (same a.aG b.aG) then
      bif !(cV a.aG b.aG) then k_ false
      else bif a.Next != b.Next then k_ false
      else k_ true
     else bad
   else bad
 else bad
theorem aar {α:Type} (bad:α) (k_:Bool→α) (a:au) (b:au) (bT:WtL au.ct a.enc) (lX:WtL au.ct b.enc) (hok:same a b=true):Em bad k_ a b=k_ (cV a b):=by
 obtain rfl:=dU hok
 simp only[Em,cY,cV,bne_self_eq_false,beq_self_eq_true,Bool.not_true,cond_false,cond_true,ah,ao]
def Lm {α:Type} (bad:α) (k_:Bool→α) (a:aB) (b:aB):α:=
 bif ak true (same a.bV b.bV) then
  bif !(cV a.bV b.bV) then k_ false
  else bif ak true (same a.Maps b.Maps) then
    bif !(cV a.Maps b.Maps) then k_ false
    else bif ak true (same a.Tx b.Tx) then
      bif !(cV a.Tx b.Tx) then k_ false
      else bif ak true (same a.Rx b.Rx) then
        bif !(cV a.Rx b.Rx) then k_ false
        else bif ak true (same a.bN b.bN) then
          bif !(cV a.bN b.bN) then k_ false
          else bif ak true (same a.aY b.aY) then
            bif !(cV a.aY b.aY) then k_ false
            else bif ak true (same a.cj b.cj) then
              bif !(cV a.cj b.cj) then k_ false
              else bif ak true (same a.Filter b.Filter) then
                bif !(cV a.Filter b.Filter) then k_ false
                else bif ak true (same a.aj b.aj) then
                  bif !(cV a.aj b.aj) then k_ false
                  else bif ak true (same a.cO b.cO) then
                    bif !(cV a.cO b.cO) then k_ false
                    else bif !(a.dp==b.dp) then k_ false
                    else bif ak true (same a.ic b.ic) then
                      bif !(cV a.ic b.ic) then k_ false
                      else bif ak true (same a.bK b.bK) then
                        bif !(cV a.bK b.bK) then k_ false
                        else bif ak true (same a.b_ b.b_) then
                          bif !(cV a.b_ b.b_) then k_ false
                          else bif ak true (same a.Counters b.Counters) then
                            bif !(cV a.Counters b.Counters) then k_ false
                            else k_ true
                           else bad
                         else bad
                       else bad
                     else bad
                   else bad
                 else bad
               else bad
             else bad
           else bad
         else bad
       else bad
     else bad
   else bad
 else bad
theorem akO {α:Type} (bad:α) (k_:Bool→α) (a:aB) (b:aB) (bT:WtL aB.ct a.enc) (lX:WtL aB.ct b.enc) (hok:same a b=true):Lm bad k_ a b=k_ (cV a b):=by
 obtain rfl:=dU hok
 simp only[Lm,cY,cV,bne_self_eq_false,beq_self_eq_true,Bool.not_true,cond_false,cond_true,ah,ao]
theorem Kz {a:Rows} {left:Int} (A_:WtC (.sl [.str]) (.sl a)) (h1:0≤left) (h2:left≤1048576) (h0:0≤ew a left):ew a left≤1048576∧sm a=true:=by
 obtain⟨hl,hw⟩:=cU A_
 have h3:=PE (P:=fun _=>True) (fun r hr l hl0 hl1 h=>⟨(al8 (al5 (show WtC .str (.str (rS r 0)) by have:=hw r hr;rw[←aoN this] at this;exact (wtl_uncons this).1)) hl0 hl1 h).1,trivial⟩) h1 h2 hl h0
 exact⟨h3.1,h3.2.1⟩
theorem Mg {a:aK} {left:Int} (A_:WtL aK.ct a.enc) (h1:0≤left) (h2:left≤1048576) (h0:0≤dj a left):dj a left≤1048576∧mJ a=true:=by
 simp only[dj,Ai,id] at h0 ⊢
 by_cases c0:ew a.dm left<0
 ·simp only[c0,decide_true,cond_true] at h0;omega
 simp only[c0,decide_false,cond_false] at h0 ⊢
 have k0:=Kz (aK.aiI A_) h1 h2 (Int.not_lt.1 c0)
 exact⟨k0.1,by simp only[mJ,uE,k0.2,ah,ao,cond_true]⟩
theorem IY {a:aJ} {left:Int} (A_:WtL aJ.ct a.enc) (h1:0≤left) (h2:left≤1048576) (h0:0≤eC a left):eC a left≤1048576∧fF a=true:=by
 simp only[eC,EY,id] at h0 ⊢
 by_cases c0:cS a.dn left<0
 ·simp only[c0,decide_true,cond_true] at h0;omega
 simp only[c0,decide_false,cond_false] at h0 ⊢
 have k0:=pO h1 h2 (cU (aJ.amd A_)).1 (Int.not_lt.1 c0)
 exact⟨k0.1,by simp only[fF,uU,k0.2,ah,ao,cond_true]⟩
theorem aiK {a:df} {left:Int} (A_:WtL df.ct a.enc) (h1:0≤left) (h2:left≤1048576) (h0:0≤eT a left):eT a left≤1048576∧jE a=true:=by
 simp only[eT,y_,id] at h0 ⊢
 by_cases c0:cS a.DA left<0
 ·simp only[c0,decide_true,cond_true] at h0;omega
 simp only[c0,decide_false,cond_false] at h0 ⊢
 have k0:=pO h1 h2 (cU (df.aiD A_)).1 (Int.not_lt.1 c0)
 exact⟨k0.1,by simp only[jE,zg,k0.2,ah,ao,cond_true]⟩
theorem Ok {a:Rows} {left:Int} (A_:WtC (.sl [.int .i64,.int .i64,.sl [.int .i64]]) (.sl a)) (h1:0≤left) (h2:left≤1048576) (h0:0≤jn a left):jn a left≤1048576∧ik a=true:=by
 obtain⟨hl,hw⟩:=cU A_
 have h3:=PE (P:=fun r=>jE (df.ae r 0)=true) (fun r hr l hl0 hl1 h=>aiK (by rw[df.eta (hw r hr)];exact hw r hr) hl0 hl1 h) h1 h2 hl h0
 exact⟨h3.1,by simp only[ik,Bool.and_eq_true,List.all_eq_true];exact h3.2⟩
theorem XB {a:au} {left:Int} (A_:WtL au.ct a.enc) (h1:0≤left) (h2:left≤1048576) (h0:0≤dq a left):dq a left≤1048576∧kK a=true:=by
 simp only[dq,r_,id] at h0 ⊢
 by_cases c0:eC a.a_ left<0
 ·simp only[c0,decide_true,cond_true] at h0;omega
 simp only[c0,decide_false,cond_false] at h0 ⊢
 have k0:=IY (au.aoQ A_) h1 h2 (Int.not_lt.1 c0)
 by_cases c1:jn a.aG (eC a.a_ left)<0
 ·simp only[c1,decide_true,cond_true] at h0;omega
 simp only[c1,decide_false,cond_false] at h0 ⊢
 have k1:=Ok (au.Ez A_) (Int.not_lt.1 c0) k0.1 (Int.not_lt.1 c1)
 exact⟨k1.1,by simp only[kK,sr,k0.2,k1.2,ah,ao,cond_true]⟩
theorem XC {a:bk} {left:Int} (A_:WtL bk.ct a.enc) (h1:0≤left) (h2:left≤1048576) (h0:0≤jD a left):jD a left≤1048576∧True:=by
 simp only[jD,xN,id] at h0 ⊢
 by_cases c0:w64 (left - (len a.Body))<0
 ·simp only[c0,decide_true,cond_true] at h0;omega
 simp only[c0,decide_false,cond_false] at h0 ⊢
 have k0:=al8 (al5 (bk.aq_ A_)) h1 h2 (Int.not_lt.1 c0)
 exact⟨k0.1,trivial⟩
theorem aa1 {a:bG} {left:Int} (A_:WtL bG.ct a.enc) (h1:0≤left) (h2:left≤1048576) (h0:0≤lW a left):lW a left≤1048576∧True:=by
 simp only[lW,Aj,id] at h0 ⊢
 by_cases c0:jD a.Bj left<0
 ·simp only[c0,decide_true,cond_true] at h0;omega
 simp only[c0,decide_false,cond_false] at h0 ⊢
 have k0:=XC (bG.asc A_) h1 h2 (Int.not_lt.1 c0)
 exact⟨k0.1,trivial⟩
theorem afo {a:dh} {left:Int} (A_:WtL dh.ct a.enc) (h1:0≤left) (h2:left≤1048576) (h0:0≤qh a left):qh a left≤1048576∧True:=by
 simp only[qh,Cl,id] at h0 ⊢
 by_cases c0:lW a.cN left<0
 ·simp only[c0,decide_true,cond_true] at h0;omega
 simp only[c0,decide_false,cond_false] at h0 ⊢
 have k0:=aa1 (dh.apr A_) h1 h2 (Int.not_lt.1 c0)
 exact⟨k0.1,trivial⟩
theorem XD {a:aS} {left:Int} (A_:WtL aS.ct a.enc) (h1:0≤left) (h2:left≤1048576) (h0:0≤fD a left):fD a left≤1048576∧True:=by
 simp only[fD,xO,id] at h0 ⊢
 by_cases c0:qh a.fh left<0
 ·simp only[c0,decide_true,cond_true] at h0;omega
 simp only[c0,decide_false,cond_false] at h0 ⊢
 have k0:=afo (aS.arb A_) h1 h2 (Int.not_lt.1 c0)
 exact⟨k0.1,trivial⟩
theorem UM {a:Rows} {left:Int} (A_:WtC (.sl [.int .i64,.int .i64,.int .i64,.int .i64,.int .i64,.int .i64,.int .i64,.int .i64,.int .i64,.int .i64,.int .i64,.int .i64,.int .i64,.int .i64,.int .i64,.int .i64,.int .i64,.int .i64,.int .i64,.int .i64,.int .i64,.int .i64,.int .i64,.int .i64,.int .i64,.str,.int .i64,.int .i64,.bool,.int .i64]) (.sl a)) (h1:0≤left) (h2:left≤1048576) (h0:0≤dC a left):dC a left≤1048576∧sm a=true:=by
 obtain⟨hl,hw⟩:=cU A_
 have h3:=PE (P:=fun _=>True) (fun r hr l hl0 hl1 h=>⟨(XD (by rw[aS.eta (hw r hr)];exact hw r hr) hl0 hl1 h).1,trivial⟩) h1 h2 hl h0
 exact⟨h3.1,h3.2.1⟩
theorem afp {a:Rows} {left:Int} (A_:WtC (.sl [.int .i64,.int .i64,.int .i64,.sl [.int .i64]]) (.sl a)) (h1:0≤left) (h2:left≤1048576) (h0:0≤eh a left):eh a left≤1048576∧lr a=true:=by
 obtain⟨hl,hw⟩:=cU A_
 have h3:=PE (P:=fun r=>fF (aJ.ae r 0)=true) (fun r hr l hl0 hl1 h=>IY (by rw[aJ.eta (hw r hr)];exact hw r hr) hl0 hl1 h) h1 h2 hl h0
 exact⟨h3.1,by simp only[lr,Bool.and_eq_true,List.all_eq_true];exact h3.2⟩
theorem aa2 {a:aI} {left:Int} (A_:WtL aI.ct a.enc) (h1:0≤left) (h2:left≤1048576) (h0:0≤e_ a left):e_ a left≤1048576∧mK a=true:=by
 simp only[e_,Ak,id] at h0 ⊢
 by_cases c0:cS a.cW left<0
 ·simp only[c0,decide_true,cond_true] at h0;omega
 simp only[c0,decide_false,cond_false] at h0 ⊢
 have k0:=pO h1 h2 (cU (aI.aiy A_)).1 (Int.not_lt.1 c0)
 exact⟨k0.1,by simp only[mK,uJ,k0.2,ah,ao,cond_true]⟩
theorem RH {a:ag} {left:Int} (A_:WtL ag.ct a.enc) (h1:0≤left) (h2:left≤1048576) (h0:0≤gv a left):gv a left≤1048576∧hD a=true:=by
 simp only[gv,tB,id] at h0 ⊢
 by_cases c0:cS a.aL left<0
 ·simp only[c0,decide_true,cond_true] at h0;omega
 simp only[c0,decide_false,cond_false] at h0 ⊢
 have k0:=pO h1 h2 (cU (ag.IQ A_)).1 (Int.not_lt.1 c0)
 exact⟨k0.1,by simp only[hD,nM,k0.2,ah,ao,cond_true]⟩
theorem aa3 {a:aM} {left:Int} (A_:WtL aM.ct a.enc) (h1:0≤left) (h2:left≤1048576) (h0:0≤qJ a left):qJ a left≤1048576∧mH a=true:=by
 simp only[qJ,Al,id] at h0 ⊢
 by_cases c0:w64 (left - (len a.Key))<0
 ·simp only[c0,decide_true,cond_true] at h0;omega
 simp only[c0,decide_false,cond_false] at h0 ⊢
 have k0:=al8 (al5 (aM.asd A_)) h1 h2 (Int.not_lt.1 c0)
 by_cases c1:cS a.Table (w64 (left - (len a.Key)))<0
 ·simp only[c1,decide_true,cond_true] at h0;omega
 simp only[c1,decide_false,cond_false] at h0 ⊢
 have k1:=pO (Int.not_lt.1 c0) k0.1 (cU (aM.IW A_)).1 (Int.not_lt.1 c1)
 exact⟨k1.1,by simp only[mH,uB,k0.2,k1.2,ah,ao,cond_true]⟩
theorem UN {a:al} {left:Int} (A_:WtL al.ct a.enc) (h1:0≤left) (h2:left≤1048576) (h0:0≤ey a left):ey a left≤1048576∧iT a=true:=by
 simp only[ey,vo,id] at h0 ⊢
 by_cases c0:cS a.bW left<0
 ·simp only[c0,decide_true,cond_true] at h0;omega
 simp only[c0,decide_false,cond_false] at h0 ⊢
 have k0:=pO h1 h2 (cU (al.aiB A_)).1 (Int.not_lt.1 c0)
 by_cases c1:gv a.Table (cS a.bW left)<0
 ·simp only[c1,decide_true,cond_true] at h0;omega
 simp only[c1,decide_false,cond_false] at h0 ⊢
 have k1:=RH (al.IW A_) (Int.not_lt.1 c0) k0.1 (Int.not_lt.1 c1)
 by_cases c2:qJ a.bj (gv a.Table (cS a.bW left))<0
 ·simp only[c2,decide_true,cond_true] at h0;omega
 simp only[c2,decide_false,cond_false] at h0 ⊢
 have k2:=aa3 (al.aps A_) (Int.not_lt.1 c1) k1.1 (Int.not_lt.1 c2)
 exact⟨k2.1,by simp only[iT,qm,k0.2,k1.2,k2.2,ah,ao,cond_true]⟩
theorem aa4 {a:bM} {left:Int} (A_:WtL bM.ct a.enc) (h1:0≤left) (h2:left≤1048576) (h0:0≤gy a left):gy a left≤1048576∧True:=by
 simp only[gy,Am,id] at h0 ⊢
 by_cases c0:w64 (left - (len a.Data))<0
 ·simp only[c0,decide_true,cond_true] at h0;omega
 simp only[c0,decide_false,cond_false] at h0 ⊢
 have k0:=al8 (al5 (bM.arf A_)) h1 h2 (Int.not_lt.1 c0)
 exact⟨k0.1,trivial⟩
theorem XE {a:Rows} {left:Int} (A_:WtC (.sl [.int .i64,.int .i64,.int .i64,.int .i64,.int .i64,.int .i64,.str,.bool]) (.sl a)) (h1:0≤left) (h2:left≤1048576) (h0:0≤fE a left):fE a left≤1048576∧sm a=true:=by
 obtain⟨hl,hw⟩:=cU A_
 have h3:=PE (P:=fun _=>True) (fun r hr l hl0 hl1 h=>⟨(aa4 (by rw[bM.eta (hw r hr)];exact hw r hr) hl0 hl1 h).1,trivial⟩) h1 h2 hl h0
 exact⟨h3.1,h3.2.1⟩
theorem aiF {a:aB} {left:Int} (A_:WtL aB.ct a.enc) (h1:0≤left) (h2:left≤1048576) (h0:0≤qk a left):qk a left≤1048576∧gH a=true:=by
 simp only[qk,za,id] at h0 ⊢
 by_cases c0:dj a.bV left<0
 ·simp only[c0,decide_true,cond_true] at h0;omega
 simp only[c0,decide_false,cond_false] at h0 ⊢
 have k0:=Mg (aB.alw A_) h1 h2 (Int.not_lt.1 c0)
 by_cases c1:cS a.Maps (dj a.bV left)<0
 ·simp only[c1,decide_true,cond_true] at h0;omega
 simp only[c1,decide_false,cond_false] at h0 ⊢
 have k1:=pO (Int.not_lt.1 c0) k0.1 (cU (aB.aoR A_)).1 (Int.not_lt.1 c1)
 by_cases c2:dq a.Tx (cS a.Maps (dj a.bV left))<0
 ·simp only[c2,decide_true,cond_true] at h0;omega
 simp only[c2,decide_false,cond_false] at h0 ⊢
 have k2:=XB (aB.arK A_) (Int.not_lt.1 c1) k1.1 (Int.not_lt.1 c2)
 by_cases c3:dC a.Rx (dq a.Tx (cS a.Maps (dj a.bV left)))<0
 ·simp only[c3,decide_true,cond_true] at h0;omega
 simp only[c3,decide_false,cond_false] at h0 ⊢
 have k3:=UM (aB.asT A_) (Int.not_lt.1 c2) k2.1 (Int.not_lt.1 c3)
 by_cases c4:eh a.bN (dC a.Rx (dq a.Tx (cS a.Maps (dj a.bV left))))<0
 ·simp only[c4,decide_true,cond_true] at h0;omega
 simp only[c4,decide_false,cond_false] at h0 ⊢
 have k4:=afp (aB.aiE A_) (Int.not_lt.1 c3) k3.1 (Int.not_lt.1 c4)
 by_cases c5:cS a.aY (eh a.bN (dC a.Rx (dq a.Tx (cS a.Maps (dj a.bV left)))))<0
 ·simp only[c5,decide_true,cond_true] at h0;omega
 simp only[c5,decide_false,cond_false] at h0 ⊢
 have k5:=pO (Int.not_lt.1 c4) k4.1 (cU (aB.UL A_)).1 (Int.not_lt.1 c5)
 by_cases c6:cS a.cj (cS a.aY (eh a.bN (dC a.Rx (dq a.Tx (cS a.Maps (dj a.bV left))))))<0
 ·simp only[c6,decide_true,cond_true] at h0;omega
 simp only[c6,decide_false,cond_false] at h0 ⊢
 have k6:=pO (Int.not_lt.1 c5) k5.1 (cU (aB.an3 A_)).1 (Int.not_lt.1 c6)
 by_cases c7:e_ a.Filter (cS a.cj (cS a.aY (eh a.bN (dC a.Rx (dq a.Tx (cS a.Maps (dj a.bV left)))))))<0
 ·simp only[c7,decide_true,cond_true] at h0;omega
 simp only[c7,decide_false,cond_false] at h0 ⊢
 have k7:=aa2 (aB.apt A_) (Int.not_lt.1 c6) k6.1 (Int.not_lt.1 c7)
 by_cases c8:ey a.aj (e_ a.Filter (cS a.cj (cS a.aY (eh a.bN (dC a.Rx (dq a.Tx (cS a.Maps (dj a.bV left))))))))<0
 ·simp only[c8,decide_true,cond_true] at h0;omega
 simp only[c8,decide_false,cond_false] at h0 ⊢
 have k8:=UN (aB.am_ A_) (Int.not_lt.1 c7) k7.1 (Int.not_lt.1 c8)
 by_cases c9:fE a.cO (ey a.aj (e_ a.Filter (cS a.cj (cS a.aY (eh a.bN (dC a.Rx (dq a.Tx (cS a.Maps (dj a.bV left)))))))))<0
 ·simp only[c9,decide_true,cond_true] at h0;omega
 simp only[c9,decide_false,cond_false] at h0 ⊢
 have k9:=XE (aB.an4 A_) (Int.not_lt.1 c8) k8.1 (Int.not_lt.1 c9)
 by_cases c10:ew a.ic (fE a.cO (ey a.aj (e_ a.Filter (cS a.cj (cS a.aY (eh a.bN (dC a.Rx (dq a.Tx (cS a.Maps (dj a.bV left))))))))))<0
 ·simp only[c10,decide_true,cond_true] at h0;omega
 simp only[c10,decide_false,cond_false] at h0 ⊢
 have k10:=Kz (aB.arh A_) (Int.not_lt.1 c9) k9.1 (Int.not_lt.1 c10)
 by_cases c11:cS a.bK (ew a.ic (fE a.cO (ey a.aj (e_ a.Filter (cS a.cj (cS a.aY (eh a.bN (dC a.Rx (dq a.Tx (cS a.Maps (dj a.bV left)))))))))))<0
 ·simp only[c11,decide_true,cond_true] at h0;omega
 simp only[c11,decide_false,cond_false] at h0 ⊢
 have k11:=pO (Int.not_lt.1 c10) k10.1 (cU (aB.amf A_)).1 (Int.not_lt.1 c11)
 by_cases c12:cS a.b_ (cS a.bK (ew a.ic (fE a.cO (ey a.aj (e_ a.Filter (cS a.cj (cS a.aY (eh a.bN (dC a.Rx (dq a.Tx (cS a.Maps (dj a.bV left))))))))))))<0
 ·simp only[c12,decide_true,cond_true] at h0;omega
 simp only[c12,decide_false,cond_false] at h0 ⊢
 have k12:=pO (Int.not_lt.1 c11) k11.1 (cU (aB.ana A_)).1 (Int.not_lt.1 c12)
 exact⟨k12.1,by simp only[gH,zk,k0.2,k1.2,k2.2,k3.2,k4.2,k5.2,k6.2,k7.2,k8.2,k9.2,k10.2,k11.2,k12.2,ah,ao,cond_true]⟩
def sw {α:Type} (bad:α) (k_:Int→Rows→α) (bZ:Int→Int→Rows→α) (aW:Int) (i:Int) (de:Rows):α:=
 bif decide (i<len de) then
  bif ak (ak true (idx i de)) (inl (Int.toNat i) de) then
   bZ (w64 (aW+1)) (w64 (i+1)) (List.set de (Int.toNat i) (aD (nth de (Int.toNat i)) 0 [.int aW]))
  else bad
 else k_ aW de
def mN {α:Type} (bad:α) (k_:Int→Rows→α) (N:Nat) (m_:Nat):Int→Int→Rows→α:=
 Nat.rec (motive:=fun _=>Int→Int→Rows→α) (fun _ _ _=>bad) (fun _ bZ=>sw bad k_ bZ) m_
theorem I6 {α:Type} (bad:α) (k_:Int→Rows→α) (N:Nat) (m_:Nat) (aW:Int) (i:Int) (de:Rows):mN bad k_ N (m_+1) aW i de=sw bad k_ (mN bad k_ N m_) aW i de:=rfl
def Aq {α:Type} (bad:α) (k_:Int→Rows→α) (l0:Int→Int→Rows→α) (a:Rows) (k:Int):α:=
 l0 k 0 a
def Ap {α:Type} (bad:α) (k_:Int→Rows→α) (N:Nat) (a:Rows) (k:Int):α:=Aq bad k_ (mN bad k_ N N) a k
def eN (k:Int):List DC:=[.int k]
def fl (a:Rows) (k:Int):Int×Rows:=(k+1*a.length,oh eN 1 a.length k)
theorem aeJ {α:Type} (bad:α) (k_:Int→Rows→α) (a:Rows) (k:Int) (bT:WtC (.sl [.int .i64]) (.sl a)) (qX:WtC (.int .i64) (.int k)) (hok:Bs 1 a k=true):∃N,Ap bad k_ N a k=k_ (fl a k).1 (fl a k).2:=by
 obtain⟨hl,hw⟩:=cU bT
 obtain⟨h1,h2,h3⟩:=yT hok
 refine⟨a.length+1, ?_⟩
 unfold Ap Aq fl
 refine yC a k 1 eN (mN bad k_ (a.length+1)) k_ ?_ ?_
 ·intro n i b h hb hn
  rw[I6]
  have w1:w64 (k+1*(i:Int)+1)=k+1*(i:Int)+1:=d8 (by omega) (by omega)
  have hs:aD (nth a i) 0 (eN (k+1*(i:Int)))=eN (k+1*(i:Int)):=fw (by rw[AO (hw (nth a i) (gK h))];rfl)
  simp only[sw,ch (show i<b.length by omega),bw (show i<b.length by omega),eI (show i<b.length by omega),bu h hl,Int.toNat_natCast,ah,ao,cond_true,hn,w1]
  rw[←hs];rfl
 ·intro n b hb
  rw[I6]
  simp only[sw,←hb,aQ,cond_false]
def sA {α:Type} (bad:α) (k_:Int→α) (a:Rows) (bZ:Int→Int→α) (aW:Int) (i:Int):α:=
 bif decide (i<len a) then
  bif ak true (idx i a) then
   bif (rI (nth a (Int.toNat i)) 0) != aW then k_ (-1)
   else bZ (w64 (aW+1)) (w64 (i+1))
  else bad
 else k_ aW
def mQ {α:Type} (bad:α) (k_:Int→α) (N:Nat) (a:Rows) (m_:Nat):Int→Int→α:=
 Nat.rec (motive:=fun _=>Int→Int→α) (fun _ _=>bad) (fun _ bZ=>sA bad k_ a bZ) m_
theorem I7 {α:Type} (bad:α) (k_:Int→α) (N:Nat) (a:Rows) (m_:Nat) (aW:Int) (i:Int):mQ bad k_ N a (m_+1) aW i=sA bad k_ a (mQ bad k_ N a m_) aW i:=rfl
def Aw {α:Type} (bad:α) (k_:Int→α) (l0:Int→Int→α) (a:Rows) (k:Int):α:=
 l0 k 0
def Au {α:Type} (bad:α) (k_:Int→α) (N:Nat) (a:Rows) (k:Int):α:=Aw bad k_ (mQ bad k_ N a N) a k
def ez (a:Rows) (k:Int):Int:=k+1*a.length
theorem aeM {α:Type} (bad:α) (k_:Int→α) (a:Rows) (k:Int) (bT:WtC (.sl [.int .i64]) (.sl a)) (qX:WtC (.int .i64) (.int k)) (hok:DR eN 1 a k=true):∃N,Au bad k_ N a k=k_ (ez a k):=by
 obtain⟨hl,hw⟩:=cU bT
 obtain⟨h0,h1,h2,h3⟩:=MQ hok
 refine⟨a.length+1, ?_⟩
 unfold Au Aw ez
 refine yD a k 1 eN (mQ bad k_ (a.length+1) a) k_ h0 ?_ ?_
 ·intro n i h hn
  rw[I7]
  have w1:w64 (k+1*(i:Int)+1)=k+1*(i:Int)+1:=d8 (by omega) (by omega)
  simp only[sA,ch h,bw h,bu h hl,Int.toNat_natCast,ah,ao,cond_true,hn,w1,ar3,bne_self_eq_false,eN,cond_false]
 ·intro n
  rw[I7]
  simp only[sA,aQ,cond_false]
def qw {α:Type} (bad:α) (k_:Int→Rows→α) (bZ:Int→Int→Rows→α) (aW:Int) (i:Int) (de:Rows):α:=
 bif decide (i<len de) then
  bif ak (ak true (idx i de)) (inl (Int.toNat i) de) then
   bZ (w64 (aW+1)) (w64 (i+1)) (List.set de (Int.toNat i) (aD (nth de (Int.toNat i)) 0 [.bool ((Int.tmod aW 3)==0)]))
  else bad
 else k_ aW de
def kQ {α:Type} (bad:α) (k_:Int→Rows→α) (N:Nat) (m_:Nat):Int→Int→Rows→α:=
 Nat.rec (motive:=fun _=>Int→Int→Rows→α) (fun _ _ _=>bad) (fun _ bZ=>qw bad k_ bZ) m_
theorem Ho {α:Type} (bad:α) (k_:Int→Rows→α) (N:Nat) (m_:Nat) (aW:Int) (i:Int) (de:Rows):kQ bad k_ N (m_+1) aW i de=qw bad k_ (kQ bad k_ N m_) aW i de:=rfl
def yr {α:Type} (bad:α) (k_:Int→Rows→α) (l0:Int→Int→Rows→α) (a:Rows) (k:Int):α:=
 l0 k 0 a
def yq {α:Type} (bad:α) (k_:Int→Rows→α) (N:Nat) (a:Rows) (k:Int):α:=yr bad k_ (kQ bad k_ N N) a k
def Dc (k:Int):List DC:=[.bool (Int.tmod k 3==0)]
def En (a:Rows) (k:Int):Int×Rows:=(k+1*a.length,oh Dc 1 a.length k)
theorem aay {α:Type} (bad:α) (k_:Int→Rows→α) (a:Rows) (k:Int) (bT:WtC (.sl [.bool]) (.sl a)) (qX:WtC (.int .i64) (.int k)) (hok:Bs 1 a k=true):∃N,yq bad k_ N a k=k_ (En a k).1 (En a k).2:=by
 obtain⟨hl,hw⟩:=cU bT
 obtain⟨h1,h2,h3⟩:=yT hok
 refine⟨a.length+1, ?_⟩
 unfold yq yr En
 refine yC a k 1 Dc (kQ bad k_ (a.length+1)) k_ ?_ ?_
 ·intro n i b h hb hn
  rw[Ho]
  have w1:w64 (k+1*(i:Int)+1)=k+1*(i:Int)+1:=d8 (by omega) (by omega)
  have hs:aD (nth a i) 0 (Dc (k+1*(i:Int)))=Dc (k+1*(i:Int)):=fw (by rw[AO (hw (nth a i) (gK h))];rfl)
  simp only[qw,ch (show i<b.length by omega),bw (show i<b.length by omega),eI (show i<b.length by omega),bu h hl,Int.toNat_natCast,ah,ao,cond_true,hn,w1]
  rw[←hs];rfl
 ·intro n b hb
  rw[Ho]
  simp only[qw,←hb,aQ,cond_false]
def qx {α:Type} (bad:α) (k_:Int→α) (a:Rows) (bZ:Int→Int→α) (aW:Int) (i:Int):α:=
 bif decide (i<len a) then
  bif ak true (idx i a) then
   bif !((rB (nth a (Int.toNat i)) 0)==((Int.tmod aW 3)==0)) then k_ (-1)
   else bZ (w64 (aW+1)) (w64 (i+1))
  else bad
 else k_ aW
def kT {α:Type} (bad:α) (k_:Int→α) (N:Nat) (a:Rows) (m_:Nat):Int→Int→α:=
 Nat.rec (motive:=fun _=>Int→Int→α) (fun _ _=>bad) (fun _ bZ=>qx bad k_ a bZ) m_
theorem Hp {α:Type} (bad:α) (k_:Int→α) (N:Nat) (a:Rows) (m_:Nat) (aW:Int) (i:Int):kT bad k_ N a (m_+1) aW i=qx bad k_ a (kT bad k_ N a m_) aW i:=rfl
def yw {α:Type} (bad:α) (k_:Int→α) (l0:Int→Int→α) (a:Rows) (k:Int):α:=
 l0 k 0
def yv {α:Type} (bad:α) (k_:Int→α) (N:Nat) (a:Rows) (k:Int):α:=yw bad k_ (kT bad k_ N a N) a k
def HG (a:Rows) (k:Int):Int:=k+1*a.length
theorem aaB {α:Type} (bad:α) (k_:Int→α) (a:Rows) (k:Int) (bT:WtC (.sl [.bool]) (.sl a)) (qX:WtC (.int .i64) (.int k)) (hok:DR Dc 1 a k=true):∃N,yv bad k_ N a k=k_ (HG a k):=by
 obtain⟨hl,hw⟩:=cU bT
 obtain⟨h0,h1,h2,h3⟩:=MQ hok
 refine⟨a.length+1, ?_⟩
 unfold yv yw HG
 refine yD a k 1 Dc (kT bad k_ (a.length+1) a) k_ h0 ?_ ?_
 ·intro n i h hn
  rw[Hp]
  have w1:w64 (k+1*(i:Int)+1)=k+1*(i:Int)+1:=d8 (by omega) (by omega)
  simp only[qx,ch h,bw h,bu h hl,Int.toNat_natCast,ah,ao,cond_true,hn,w1,ar4,beq_self_eq_true,Bool.not_true,Dc,cond_false]
 ·intro n
  rw[Hp]
  simp only[qx,aQ,cond_false]
def mT {α:Type} (bad:α) (k_:Bytes→α) (bZ:Int→Bytes→α) (aW:Int) (az:Bytes):α:=
 bif decide (0<aW) then
  bif ak true (catOk (toStr ([[.int (IntKind.wrap .u8 (w64 (48+(Int.tmod aW 10))))]])) az) then
   bZ (w64 (Int.tdiv aW 10)) ((toStr ([[.int (IntKind.wrap .u8 (w64 (48+(Int.tmod aW 10))))]]))++az)
  else bad
 else bif ak true (catOk [109] az) then
   k_ ([109]++az)
  else bad
def mU {α:Type} (bad:α) (k_:Bytes→α) (N:Nat) (m_:Nat):Int→Bytes→α:=
 Nat.rec (motive:=fun _=>Int→Bytes→α) (fun _ _=>bad) (fun _ bZ=>mT bad k_ bZ) m_
theorem I8 {α:Type} (bad:α) (k_:Bytes→α) (N:Nat) (m_:Nat) (aW:Int) (az:Bytes):mU bad k_ N (m_+1) aW az=mT bad k_ (mU bad k_ N m_) aW az:=rfl
def AA {α:Type} (bad:α) (k_:Bytes→α) (l0:Int→Bytes→α) (k:Int):α:=
 bif decide (k≤0) then k_ [109,48]
 else l0 k []
def Az {α:Type} (bad:α) (k_:Bytes→α) (N:Nat) (k:Int):α:=AA bad k_ (mU bad k_ N N) k
def mtD (k:Int):Bytes:=toStr ([[.int (IntKind.wrap .u8 (w64 (48+(Int.tmod k 10))))]])
def mtl:Nat→Int→Bytes→Bytes
 | 0,_,o=>o
 | n+1,k,o=>bif decide (0<k) then mtl n (w64 (Int.tdiv k 10)) (mtD k++o) else o
def lN (k:Int):Bytes:=bif decide (k≤0) then [109,48] else [109]++mtl 25 k []
theorem aeP {α:Type} (bad:α) (k_:Bytes→α) (k:Int) (qX:WtC (.int .i64) (.int k)):∃N,Az bad k_ N k=k_ (lN k):=by
 have h63:=Ex qX
 refine⟨26, ?_⟩
 have key:∀(n:Nat) (k:Int) (o:Bytes),0≤k→k≤9223372036854775807→k<10 ^ n→o.length+n≤100→
   mU bad k_ 26 (n+1) k o=k_ ([109]++mtl n k o):=by
  intro n
  induction n with
  | zero=>
   intro k o h0 h1 h2 h3
   have:k=0:=by simp only[Int.pow_zero] at h2;omega
   subst this
   rw[I8]
   have c1:catOk [109] o=true:=by simp only[catOk,List.length_cons,List.length_nil,decide_eq_true_eq];omega
   simp only[mT,c1,ah,cond_true,mtl]
   rfl
  | succ n ih=>
   intro k o h0 h1 h2 h3
   rw[I8]
   have c1:catOk [109] o=true:=by simp only[catOk,List.length_cons,List.length_nil,decide_eq_true_eq];omega
   by_cases hk:0<k
   ·have l1:(mtD k).length=1:=rfl
    have c2:catOk (mtD k) o=true:=by simp only[catOk,l1,decide_eq_true_eq];omega
    have e1:Int.tdiv k 10=k / 10:=Int.tdiv_eq_ediv_of_nonneg h0
    have e2:w64 (Int.tdiv k 10)=k / 10:=by rw[e1];exact d8 (by omega) (by omega)
    have:=ih (k / 10) (mtD k++o) (by omega) (by omega) (by rw[Int.pow_succ] at h2;omega) (by rw[List.length_append,l1];omega)
    have hd:decide (0<k)=true:=decide_eq_true hk
    unfold mT mtl
    rw[hd,e2]
    show (bif ak true (catOk (mtD k) o) then _ else bad)=_
    rw[c2]
    exact this
   ·have hd:decide (0<k)=false:=decide_eq_false hk
    simp only[mT,hd,c1,ah,cond_true,cond_false,mtl]
 unfold Az AA lN
 by_cases h:k≤0
 ·simp only[decide_eq_true h,cond_true]
 ·simp only[decide_eq_false h,cond_false]
  exact key 25 k [] (by omega) (by omega) (by omega) (by simp)
def lO {α:Type} (bad:α) (k_:Int→Rows→α) (bZ:Int→Int→Rows→α) (aW:Int) (i:Int) (de:Rows):α:=
 bif decide (i<len de) then
  bif ak (ak true (idx i de)) (inl (Int.toNat i) de) then
   bZ (w64 (aW+1)) (w64 (i+1)) (List.set de (Int.toNat i) (aD (nth de (Int.toNat i)) 0 [.str (lN aW)]))
  else bad
 else k_ aW de
def hJ {α:Type} (bad:α) (k_:Int→Rows→α) (N:Nat) (m_:Nat):Int→Int→Rows→α:=
 Nat.rec (motive:=fun _=>Int→Int→Rows→α) (fun _ _ _=>bad) (fun _ bZ=>lO bad k_ bZ) m_
theorem DX {α:Type} (bad:α) (k_:Int→Rows→α) (N:Nat) (m_:Nat) (aW:Int) (i:Int) (de:Rows):hJ bad k_ N (m_+1) aW i de=lO bad k_ (hJ bad k_ N m_) aW i de:=rfl
def tG {α:Type} (bad:α) (k_:Int→Rows→α) (l0:Int→Int→Rows→α) (a:Rows) (k:Int):α:=
 l0 k 0 a
def tE {α:Type} (bad:α) (k_:Int→Rows→α) (N:Nat) (a:Rows) (k:Int):α:=tG bad k_ (hJ bad k_ N N) a k
def gw (k:Int):List DC:=[.str (lN k)]
def lY (a:Rows) (k:Int):Int×Rows:=(k+1*a.length,oh gw 1 a.length k)
theorem Ue {α:Type} (bad:α) (k_:Int→Rows→α) (a:Rows) (k:Int) (bT:WtC (.sl [.str]) (.sl a)) (qX:WtC (.int .i64) (.int k)) (hok:Bs 1 a k=true):∃N,tE bad k_ N a k=k_ (lY a k).1 (lY a k).2:=by
 obtain⟨hl,hw⟩:=cU bT
 obtain⟨h1,h2,h3⟩:=yT hok
 refine⟨a.length+1, ?_⟩
 unfold tE tG lY
 refine yC a k 1 gw (hJ bad k_ (a.length+1)) k_ ?_ ?_
 ·intro n i b h hb hn
  rw[DX]
  have w1:w64 (k+1*(i:Int)+1)=k+1*(i:Int)+1:=d8 (by omega) (by omega)
  have hs:aD (nth a i) 0 (gw (k+1*(i:Int)))=gw (k+1*(i:Int)):=fw (by rw[AO (hw (nth a i) (gK h))];rfl)
  simp only[lO,ch (show i<b.length by omega),bw (show i<b.length by omega),eI (show i<b.length by omega),bu h hl,Int.toNat_natCast,ah,ao,cond_true,hn,w1]
  rw[←hs];rfl
 ·intro n b hb
  rw[DX]
  simp only[lO,←hb,aQ,cond_false]
def lP {α:Type} (bad:α) (k_:Int→α) (a:Rows) (bZ:Int→Int→α) (aW:Int) (i:Int):α:=
 bif decide (i<len a) then
  bif ak true (idx i a) then
   bif !((rS (nth a (Int.toNat i)) 0)==(lN aW)) then k_ (-1)
   else bZ (w64 (aW+1)) (w64 (i+1))
  else bad
 else k_ aW
def hX {α:Type} (bad:α) (k_:Int→α) (N:Nat) (a:Rows) (m_:Nat):Int→Int→α:=
 Nat.rec (motive:=fun _=>Int→Int→α) (fun _ _=>bad) (fun _ bZ=>lP bad k_ a bZ) m_
theorem DY {α:Type} (bad:α) (k_:Int→α) (N:Nat) (a:Rows) (m_:Nat) (aW:Int) (i:Int):hX bad k_ N a (m_+1) aW i=lP bad k_ a (hX bad k_ N a m_) aW i:=rfl
def tL {α:Type} (bad:α) (k_:Int→α) (l0:Int→Int→α) (a:Rows) (k:Int):α:=
 l0 k 0
def tK {α:Type} (bad:α) (k_:Int→α) (N:Nat) (a:Rows) (k:Int):α:=tL bad k_ (hX bad k_ N a N) a k
def lZ (a:Rows) (k:Int):Int:=k+1*a.length
theorem Uh {α:Type} (bad:α) (k_:Int→α) (a:Rows) (k:Int) (bT:WtC (.sl [.str]) (.sl a)) (qX:WtC (.int .i64) (.int k)) (hok:DR gw 1 a k=true):∃N,tK bad k_ N a k=k_ (lZ a k):=by
 obtain⟨hl,hw⟩:=cU bT
 obtain⟨h0,h1,h2,h3⟩:=MQ hok
 refine⟨a.length+1, ?_⟩
 unfold tK tL lZ
 refine yD a k 1 gw (hX bad k_ (a.length+1) a) k_ h0 ?_ ?_
 ·intro n i h hn
  rw[DY]
  have w1:w64 (k+1*(i:Int)+1)=k+1*(i:Int)+1:=d8 (by omega) (by omega)
  simp only[lP,ch h,bw h,bu h hl,Int.toNat_natCast,ah,ao,cond_true,hn,w1,ar5,beq_self_eq_true,Bool.not_true,gw,cond_false]
 ·intro n
  rw[DY]
  simp only[lP,aQ,cond_false]
end
end Go.Proofs.YthpmalpdnnbkgaaGreat.Pl
