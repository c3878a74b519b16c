/- Plain forms. Conditions: as each says. -/
import Derived.Test.YtnlkklmcfafgeaaGreatPre
import Derived.Test.YtnlkklmcfafgeaaGreatLem
import Derived.Test.YtnlkklmcfafgeaaGreatDp
import Derived.Test.YtnlkklmcfafgeaaGreatBit
set_option linter.unusedVariables false
set_option linter.unusedSimpArgs false
set_option maxRecDepth 100000
namespace Go.Proofs.YtnlkklmcfafgeaaGreat.Pl
open Vm
noncomputable section
variable {α:Type} (ke:α)
structure nF where
 Wj:Int
 oH:Bool
 pE:Rows
def nF.enc (x:nF):List DC:=[.int x.Wj,.bool x.oH,.sl x.pE]
def nF.nd (r:List DC) (o:Nat):nF:=⟨rI r (o+0),rB r (o+1),rR r (o+2)⟩
def nF.ct:List CT:=[.i,.bool,.sl [.i]]
theorem nF.eta {r:List DC} (h:kc nF.ct r):(nF.nd r 0).enc=r:=(show (nF.nd r 0).enc=sN nF.ct r 0 from by kernel_rfl).trans (ra h)
theorem nF.nB {r:List CT} {ds:List DC} (h:kc (nF.ct++r) ds):∃(x:nF) (aX:List DC),ds=x.enc++aX∧kc nF.ct x.enc∧kc r aX:=by
 obtain⟨d1,d2,rfl,h1,h2⟩:=qt h
 exact⟨nF.nd d1 0,d2,by rw[nF.eta h1],by rw[nF.eta h1];exact h1,h2⟩
theorem nF.nrE {x:nF} (h:kc nF.ct x.enc):G9 (.sl [.i]) (.sl x.pE):=oB 2 h rfl rfl
structure ot where
 Frames:Int
 Bad:Int
 pX:Int
 qz:Int
 tz:Int
def ot.enc (x:ot):List DC:=[.int x.Frames,.int x.Bad,.int x.pX,.int x.qz,.int x.tz]
def ot.nd (r:List DC) (o:Nat):ot:=⟨rI r (o+0),rI r (o+1),rI r (o+2),rI r (o+3),rI r (o+4)⟩
def ot.ct:List CT:=[.i,.i,.i,.i,.i]
theorem ot.eta {r:List DC} (h:kc ot.ct r):(ot.nd r 0).enc=r:=(show (ot.nd r 0).enc=sN ot.ct r 0 from by kernel_rfl).trans (ra h)
theorem ot.nB {r:List CT} {ds:List DC} (h:kc (ot.ct++r) ds):∃(x:ot) (aX:List DC),ds=x.enc++aX∧kc ot.ct x.enc∧kc r aX:=by
 obtain⟨d1,d2,rfl,h1,h2⟩:=qt h
 exact⟨ot.nd d1 0,d2,by rw[ot.eta h1],by rw[ot.eta h1];exact h1,h2⟩
structure nA where
 Kind:Int
 ox:Int
 ov:Int
 Seq:Int
 Ack:Int
 Flags:Int
 uF:Int
 Body:Bytes
def nA.enc (x:nA):List DC:=[.int x.Kind,.int x.ox,.int x.ov,.int x.Seq,.int x.Ack,.int x.Flags,.int x.uF,.str x.Body]
def nA.nd (r:List DC) (o:Nat):nA:=⟨rI r (o+0),rI r (o+1),rI r (o+2),rI r (o+3),rI r (o+4),rI r (o+5),rI r (o+6),rS r (o+7)⟩
def nA.ct:List CT:=[.i,.i,.i,.i,.i,.i,.i,.str]
theorem nA.eta {r:List DC} (h:kc nA.ct r):(nA.nd r 0).enc=r:=(show (nA.nd r 0).enc=sN nA.ct r 0 from by kernel_rfl).trans (ra h)
theorem nA.nB {r:List CT} {ds:List DC} (h:kc (nA.ct++r) ds):∃(x:nA) (aX:List DC),ds=x.enc++aX∧kc nA.ct x.enc∧kc r aX:=by
 obtain⟨d1,d2,rfl,h1,h2⟩:=qt h
 exact⟨nA.nd d1 0,d2,by rw[nA.eta h1],by rw[nA.eta h1];exact h1,h2⟩
theorem nA.no3 {x:nA} (h:kc nA.ct x.enc):G9 .i (.int x.Kind):=oB 0 h rfl rfl
theorem nA.nh7 {x:nA} (h:kc nA.ct x.enc):G9 .i (.int x.ox):=oB 1 h rfl rfl
theorem nA.nh6 {x:nA} (h:kc nA.ct x.enc):G9 .i (.int x.ov):=oB 2 h rfl rfl
theorem nA.nwO {x:nA} (h:kc nA.ct x.enc):G9 .i (.int x.Seq):=oB 3 h rfl rfl
theorem nA.nwM {x:nA} (h:kc nA.ct x.enc):G9 .i (.int x.Flags):=oB 5 h rfl rfl
theorem nA.ntU {x:nA} (h:kc nA.ct x.enc):G9 .str (.str x.Body):=oB 7 h rfl rfl
structure nC where
 NY:Int
 N0:Int
 PJ:Int
 Tos:Int
 Id:Int
 Ttl:Int
 pZ:Int
 qh:Int
 qO:nA
def nC.enc (x:nC):List DC:=[.int x.NY,.int x.N0,.int x.PJ,.int x.Tos,.int x.Id,.int x.Ttl,.int x.pZ,.int x.qh,.int x.qO.Kind,.int x.qO.ox,.int x.qO.ov,.int x.qO.Seq,.int x.qO.Ack,.int x.qO.Flags,.int x.qO.uF,.str x.qO.Body]
def nC.nd (r:List DC) (o:Nat):nC:=⟨rI r (o+0),rI r (o+1),rI r (o+2),rI r (o+3),rI r (o+4),rI r (o+5),rI r (o+6),rI r (o+7),nA.nd r (o+8)⟩
def nC.ct:List CT:=[.i,.i,.i,.i,.i,.i,.i,.i,.i,.i,.i,.i,.i,.i,.i,.str]
theorem nC.eta {r:List DC} (h:kc nC.ct r):(nC.nd r 0).enc=r:=(show (nC.nd r 0).enc=sN nC.ct r 0 from by kernel_rfl).trans (ra h)
theorem nC.nB {r:List CT} {ds:List DC} (h:kc (nC.ct++r) ds):∃(x:nC) (aX:List DC),ds=x.enc++aX∧kc nC.ct x.enc∧kc r aX:=by
 obtain⟨d1,d2,rfl,h1,h2⟩:=qt h
 exact⟨nC.nd d1 0,d2,by rw[nC.eta h1],by rw[nC.eta h1];exact h1,h2⟩
theorem nC.nvA {x:nC} (h:kc nC.ct x.enc):G9 .i (.int x.PJ):=oB 2 h rfl rfl
theorem nC.nxz {x:nC} (h:kc nC.ct x.enc):G9 .i (.int x.Tos):=oB 3 h rfl rfl
theorem nC.nxL {x:nC} (h:kc nC.ct x.enc):G9 .i (.int x.Id):=oB 4 h rfl rfl
theorem nC.nxA {x:nC} (h:kc nC.ct x.enc):G9 .i (.int x.Ttl):=oB 5 h rfl rfl
theorem nC.nkb {x:nC} (h:kc nC.ct x.enc):G9 .i (.int x.pZ):=oB 6 h rfl rfl
theorem nC.nrC {x:nC} (h:kc nC.ct x.enc):G9 .i (.int x.qh):=oB 7 h rfl rfl
theorem nC.nvf {x:nC} (h:kc nC.ct x.enc):kc nA.ct x.qO.enc:=yr 8 8 h
structure pr where
 nV:nC
 nG:Int
 Count:Int
def pr.enc (x:pr):List DC:=[.int x.nV.NY,.int x.nV.N0,.int x.nV.PJ,.int x.nV.Tos,.int x.nV.Id,.int x.nV.Ttl,.int x.nV.pZ,.int x.nV.qh,.int x.nV.qO.Kind,.int x.nV.qO.ox,.int x.nV.qO.ov,.int x.nV.qO.Seq,.int x.nV.qO.Ack,.int x.nV.qO.Flags,.int x.nV.qO.uF,.str x.nV.qO.Body,.int x.nG,.int x.Count]
def pr.nd (r:List DC) (o:Nat):pr:=⟨nC.nd r (o+0),rI r (o+16),rI r (o+17)⟩
def pr.ct:List CT:=[.i,.i,.i,.i,.i,.i,.i,.i,.i,.i,.i,.i,.i,.i,.i,.str,.i,.i]
theorem pr.eta {r:List DC} (h:kc pr.ct r):(pr.nd r 0).enc=r:=(show (pr.nd r 0).enc=sN pr.ct r 0 from by kernel_rfl).trans (ra h)
theorem pr.nB {r:List CT} {ds:List DC} (h:kc (pr.ct++r) ds):∃(x:pr) (aX:List DC),ds=x.enc++aX∧kc pr.ct x.enc∧kc r aX:=by
 obtain⟨d1,d2,rfl,h1,h2⟩:=qt h
 exact⟨pr.nd d1 0,d2,by rw[pr.eta h1],by rw[pr.eta h1];exact h1,h2⟩
theorem pr.nvR {x:pr} (h:kc pr.ct x.enc):kc nC.ct x.nV.enc:=yr 0 16 h
theorem pr.nka {x:pr} (h:kc pr.ct x.enc):G9 .i (.int x.nG):=oB 16 h rfl rfl
theorem pr.nj9 {x:pr} (h:kc pr.ct x.enc):G9 .i (.int x.Count):=oB 17 h rfl rfl
structure nE where
 oA:Int
 nG:Int
 Head:Int
 qQ:Int
def nE.enc (x:nE):List DC:=[.int x.oA,.int x.nG,.int x.Head,.int x.qQ]
def nE.nd (r:List DC) (o:Nat):nE:=⟨rI r (o+0),rI r (o+1),rI r (o+2),rI r (o+3)⟩
def nE.ct:List CT:=[.i,.i,.i,.i]
theorem nE.eta {r:List DC} (h:kc nE.ct r):(nE.nd r 0).enc=r:=(show (nE.nd r 0).enc=sN nE.ct r 0 from by kernel_rfl).trans (ra h)
theorem nE.nB {r:List CT} {ds:List DC} (h:kc (nE.ct++r) ds):∃(x:nE) (aX:List DC),ds=x.enc++aX∧kc nE.ct x.enc∧kc r aX:=by
 obtain⟨d1,d2,rfl,h1,h2⟩:=qt h
 exact⟨nE.nd d1 0,d2,by rw[nE.eta h1],by rw[nE.eta h1];exact h1,h2⟩
theorem nE.nvy {x:nE} (h:kc nE.ct x.enc):G9 .i (.int x.oA):=oB 0 h rfl rfl
theorem nE.nka {x:nE} (h:kc nE.ct x.enc):G9 .i (.int x.nG):=oB 1 h rfl rfl
theorem nE.nw4 {x:nE} (h:kc nE.ct x.enc):G9 .i (.int x.Head):=oB 2 h rfl rfl
theorem nE.nw7 {x:nE} (h:kc nE.ct x.enc):G9 .i (.int x.qQ):=oB 3 h rfl rfl
structure nf where
 oA:Int
 nG:Int
 Count:Int
def nf.enc (x:nf):List DC:=[.int x.oA,.int x.nG,.int x.Count]
def nf.nd (r:List DC) (o:Nat):nf:=⟨rI r (o+0),rI r (o+1),rI r (o+2)⟩
def nf.ct:List CT:=[.i,.i,.i]
theorem nf.eta {r:List DC} (h:kc nf.ct r):(nf.nd r 0).enc=r:=(show (nf.nd r 0).enc=sN nf.ct r 0 from by kernel_rfl).trans (ra h)
theorem nf.nB {r:List CT} {ds:List DC} (h:kc (nf.ct++r) ds):∃(x:nf) (aX:List DC),ds=x.enc++aX∧kc nf.ct x.enc∧kc r aX:=by
 obtain⟨d1,d2,rfl,h1,h2⟩:=qt h
 exact⟨nf.nd d1 0,d2,by rw[nf.eta h1],by rw[nf.eta h1];exact h1,h2⟩
theorem nf.nvy {x:nf} (h:kc nf.ct x.enc):G9 .i (.int x.oA):=oB 0 h rfl rfl
theorem nf.nka {x:nf} (h:kc nf.ct x.enc):G9 .i (.int x.nG):=oB 1 h rfl rfl
theorem nf.nj9 {x:nf} (h:kc nf.ct x.enc):G9 .i (.int x.Count):=oB 2 h rfl rfl
structure nr where
 Ring:nE
 Device:nf
 Driver:nf
 pO:pr
 TA:Bool
 Tz:Int
def nr.enc (x:nr):List DC:=[.int x.Ring.oA,.int x.Ring.nG,.int x.Ring.Head,.int x.Ring.qQ,.int x.Device.oA,.int x.Device.nG,.int x.Device.Count,.int x.Driver.oA,.int x.Driver.nG,.int x.Driver.Count,.int x.pO.nV.NY,.int x.pO.nV.N0,.int x.pO.nV.PJ,.int x.pO.nV.Tos,.int x.pO.nV.Id,.int x.pO.nV.Ttl,.int x.pO.nV.pZ,.int x.pO.nV.qh,.int x.pO.nV.qO.Kind,.int x.pO.nV.qO.ox,.int x.pO.nV.qO.ov,.int x.pO.nV.qO.Seq,.int x.pO.nV.qO.Ack,.int x.pO.nV.qO.Flags,.int x.pO.nV.qO.uF,.str x.pO.nV.qO.Body,.int x.pO.nG,.int x.pO.Count,.bool x.TA,.int x.Tz]
def nr.nd (r:List DC) (o:Nat):nr:=⟨nE.nd r (o+0),nf.nd r (o+4),nf.nd r (o+7),pr.nd r (o+10),rB r (o+28),rI r (o+29)⟩
def nr.ct:List CT:=[.i,.i,.i,.i,.i,.i,.i,.i,.i,.i,.i,.i,.i,.i,.i,.i,.i,.i,.i,.i,.i,.i,.i,.i,.i,.str,.i,.i,.bool,.i]
theorem nr.eta {r:List DC} (h:kc nr.ct r):(nr.nd r 0).enc=r:=(show (nr.nd r 0).enc=sN nr.ct r 0 from by kernel_rfl).trans (ra h)
theorem nr.nB {r:List CT} {ds:List DC} (h:kc (nr.ct++r) ds):∃(x:nr) (aX:List DC),ds=x.enc++aX∧kc nr.ct x.enc∧kc r aX:=by
 obtain⟨d1,d2,rfl,h1,h2⟩:=qt h
 exact⟨nr.nd d1 0,d2,by rw[nr.eta h1],by rw[nr.eta h1];exact h1,h2⟩
theorem nr.nw6 {x:nr} (h:kc nr.ct x.enc):kc nE.ct x.Ring.enc:=yr 0 4 h
theorem nr.nw5 {x:nr} (h:kc nr.ct x.enc):kc pr.ct x.pO.enc:=yr 10 18 h
structure nc where
 nL:Rows
def nc.enc (x:nc):List DC:=[.sl x.nL]
def nc.nd (r:List DC) (o:Nat):nc:=⟨rR r (o+0)⟩
def nc.ct:List CT:=[.sl [.str]]
theorem nc.eta {r:List DC} (h:kc nc.ct r):(nc.nd r 0).enc=r:=(show (nc.nd r 0).enc=sN nc.ct r 0 from by kernel_rfl).trans (ra h)
theorem nc.nB {r:List CT} {ds:List DC} (h:kc (nc.ct++r) ds):∃(x:nc) (aX:List DC),ds=x.enc++aX∧kc nc.ct x.enc∧kc r aX:=by
 obtain⟨d1,d2,rfl,h1,h2⟩:=qt h
 exact⟨nc.nd d1 0,d2,by rw[nc.eta h1],by rw[nc.eta h1];exact h1,h2⟩
theorem nc.wR {x:nc} (h:kc nc.ct x.enc):G9 (.sl [.str]) (.sl x.nL):=oB 0 h rfl rfl
structure pb where
 nuB:Int
 nta:Int
 no6:Int
 no9:Bool
def pb.enc (x:pb):List DC:=[.int x.nuB,.int x.nta,.int x.no6,.bool x.no9]
def pb.nd (r:List DC) (o:Nat):pb:=⟨rI r (o+0),rI r (o+1),rI r (o+2),rB r (o+3)⟩
def pb.ct:List CT:=[.i,.i,.i,.bool]
theorem pb.eta {r:List DC} (h:kc pb.ct r):(pb.nd r 0).enc=r:=(show (pb.nd r 0).enc=sN pb.ct r 0 from by kernel_rfl).trans (ra h)
theorem pb.nB {r:List CT} {ds:List DC} (h:kc (pb.ct++r) ds):∃(x:pb) (aX:List DC),ds=x.enc++aX∧kc pb.ct x.enc∧kc r aX:=by
 obtain⟨d1,d2,rfl,h1,h2⟩:=qt h
 exact⟨pb.nd d1 0,d2,by rw[pb.eta h1],by rw[pb.eta h1];exact h1,h2⟩
structure nx where
 yu:Int
 OD:Int
 Count:Int
 Time:Int
 T0:Bool
 P_:Bool
def nx.enc (x:nx):List DC:=[.int x.yu,.int x.OD,.int x.Count,.int x.Time,.bool x.T0,.bool x.P_]
def nx.nd (r:List DC) (o:Nat):nx:=⟨rI r (o+0),rI r (o+1),rI r (o+2),rI r (o+3),rB r (o+4),rB r (o+5)⟩
def nx.ct:List CT:=[.i,.i,.i,.i,.bool,.bool]
theorem nx.eta {r:List DC} (h:kc nx.ct r):(nx.nd r 0).enc=r:=(show (nx.nd r 0).enc=sN nx.ct r 0 from by kernel_rfl).trans (ra h)
theorem nx.nB {r:List CT} {ds:List DC} (h:kc (nx.ct++r) ds):∃(x:nx) (aX:List DC),ds=x.enc++aX∧kc nx.ct x.enc∧kc r aX:=by
 obtain⟨d1,d2,rfl,h1,h2⟩:=qt h
 exact⟨nx.nd d1 0,d2,by rw[nx.eta h1],by rw[nx.eta h1];exact h1,h2⟩
theorem nx.nj9 {x:nx} (h:kc nx.ct x.enc):G9 .i (.int x.Count):=oB 2 h rfl rfl
structure nO where
 Kind:Int
 pZ:Int
 qh:Int
 ox:Int
 ov:Int
def nO.enc (x:nO):List DC:=[.int x.Kind,.int x.pZ,.int x.qh,.int x.ox,.int x.ov]
def nO.nd (r:List DC) (o:Nat):nO:=⟨rI r (o+0),rI r (o+1),rI r (o+2),rI r (o+3),rI r (o+4)⟩
def nO.ct:List CT:=[.i,.i,.i,.i,.i]
theorem nO.eta {r:List DC} (h:kc nO.ct r):(nO.nd r 0).enc=r:=(show (nO.nd r 0).enc=sN nO.ct r 0 from by kernel_rfl).trans (ra h)
theorem nO.nB {r:List CT} {ds:List DC} (h:kc (nO.ct++r) ds):∃(x:nO) (aX:List DC),ds=x.enc++aX∧kc nO.ct x.enc∧kc r aX:=by
 obtain⟨d1,d2,rfl,h1,h2⟩:=qt h
 exact⟨nO.nd d1 0,d2,by rw[nO.eta h1],by rw[nO.eta h1];exact h1,h2⟩
theorem nO.no3 {x:nO} (h:kc nO.ct x.enc):G9 .i (.int x.Kind):=oB 0 h rfl rfl
theorem nO.nkb {x:nO} (h:kc nO.ct x.enc):G9 .i (.int x.pZ):=oB 1 h rfl rfl
theorem nO.nrC {x:nO} (h:kc nO.ct x.enc):G9 .i (.int x.qh):=oB 2 h rfl rfl
theorem nO.nh7 {x:nO} (h:kc nO.ct x.enc):G9 .i (.int x.ox):=oB 3 h rfl rfl
theorem nO.nh6 {x:nO} (h:kc nO.ct x.enc):G9 .i (.int x.ov):=oB 4 h rfl rfl
structure nJ where
 xN:nO
 Next:Int
 Data:Bytes
 X3:Bool
def nJ.enc (x:nJ):List DC:=[.int x.xN.Kind,.int x.xN.pZ,.int x.xN.qh,.int x.xN.ox,.int x.xN.ov,.int x.Next,.str x.Data,.bool x.X3]
def nJ.nd (r:List DC) (o:Nat):nJ:=⟨nO.nd r (o+0),rI r (o+5),rS r (o+6),rB r (o+7)⟩
def nJ.ct:List CT:=[.i,.i,.i,.i,.i,.i,.str,.bool]
theorem nJ.eta {r:List DC} (h:kc nJ.ct r):(nJ.nd r 0).enc=r:=(show (nJ.nd r 0).enc=sN nJ.ct r 0 from by kernel_rfl).trans (ra h)
theorem nJ.nB {r:List CT} {ds:List DC} (h:kc (nJ.ct++r) ds):∃(x:nJ) (aX:List DC),ds=x.enc++aX∧kc nJ.ct x.enc∧kc r aX:=by
 obtain⟨d1,d2,rfl,h1,h2⟩:=qt h
 exact⟨nJ.nd d1 0,d2,by rw[nJ.eta h1],by rw[nJ.eta h1];exact h1,h2⟩
theorem nJ.nw3 {x:nJ} (h:kc nJ.ct x.enc):kc nO.ct x.xN.enc:=yr 0 5 h
theorem nJ.ntX {x:nJ} (h:kc nJ.ct x.enc):G9 .i (.int x.Next):=oB 5 h rfl rfl
theorem nJ.nvz {x:nJ} (h:kc nJ.ct x.enc):G9 .str (.str x.Data):=oB 6 h rfl rfl
structure nI where
 Key:Bytes
 Table:Rows
def nI.enc (x:nI):List DC:=[.str x.Key,.sl x.Table]
def nI.nd (r:List DC) (o:Nat):nI:=⟨rS r (o+0),rR r (o+1)⟩
def nI.ct:List CT:=[.str,.sl [.i]]
theorem nI.eta {r:List DC} (h:kc nI.ct r):(nI.nd r 0).enc=r:=(show (nI.nd r 0).enc=sN nI.ct r 0 from by kernel_rfl).trans (ra h)
theorem nI.nB {r:List CT} {ds:List DC} (h:kc (nI.ct++r) ds):∃(x:nI) (aX:List DC),ds=x.enc++aX∧kc nI.ct x.enc∧kc r aX:=by
 obtain⟨d1,d2,rfl,h1,h2⟩:=qt h
 exact⟨nI.nd d1 0,d2,by rw[nI.eta h1],by rw[nI.eta h1];exact h1,h2⟩
theorem nI.nxw {x:nI} (h:kc nI.ct x.enc):G9 .str (.str x.Key):=oB 0 h rfl rfl
theorem nI.Wa {x:nI} (h:kc nI.ct x.enc):G9 (.sl [.i]) (.sl x.Table):=oB 1 h rfl rfl
structure py where
 qf:Int
 nH:Int
 OA:Rows
def py.enc (x:py):List DC:=[.int x.qf,.int x.nH,.sl x.OA]
def py.nd (r:List DC) (o:Nat):py:=⟨rI r (o+0),rI r (o+1),rR r (o+2)⟩
def py.ct:List CT:=[.i,.i,.sl [.i]]
theorem py.eta {r:List DC} (h:kc py.ct r):(py.nd r 0).enc=r:=(show (py.nd r 0).enc=sN py.ct r 0 from by kernel_rfl).trans (ra h)
theorem py.nB {r:List CT} {ds:List DC} (h:kc (py.ct++r) ds):∃(x:py) (aX:List DC),ds=x.enc++aX∧kc py.ct x.enc∧kc r aX:=by
 obtain⟨d1,d2,rfl,h1,h2⟩:=qt h
 exact⟨py.nd d1 0,d2,by rw[py.eta h1],by rw[py.eta h1];exact h1,h2⟩
theorem py.ns3 {x:py} (h:kc py.ct x.enc):G9 .i (.int x.qf):=oB 0 h rfl rfl
theorem py.V_ {x:py} (h:kc py.ct x.enc):G9 .i (.int x.nH):=oB 1 h rfl rfl
theorem py.nrB {x:py} (h:kc py.ct x.enc):G9 (.sl [.i]) (.sl x.OA):=oB 2 h rfl rfl
structure nj where
 oA:Int
 nG:Int
 Count:Int
 oe:Rows
def nj.enc (x:nj):List DC:=[.int x.oA,.int x.nG,.int x.Count,.sl x.oe]
def nj.nd (r:List DC) (o:Nat):nj:=⟨rI r (o+0),rI r (o+1),rI r (o+2),rR r (o+3)⟩
def nj.ct:List CT:=[.i,.i,.i,.sl [.i]]
theorem nj.eta {r:List DC} (h:kc nj.ct r):(nj.nd r 0).enc=r:=(show (nj.nd r 0).enc=sN nj.ct r 0 from by kernel_rfl).trans (ra h)
theorem nj.nB {r:List CT} {ds:List DC} (h:kc (nj.ct++r) ds):∃(x:nj) (aX:List DC),ds=x.enc++aX∧kc nj.ct x.enc∧kc r aX:=by
 obtain⟨d1,d2,rfl,h1,h2⟩:=qt h
 exact⟨nj.nd d1 0,d2,by rw[nj.eta h1],by rw[nj.eta h1];exact h1,h2⟩
theorem nj.nvy {x:nj} (h:kc nj.ct x.enc):G9 .i (.int x.oA):=oB 0 h rfl rfl
theorem nj.nka {x:nj} (h:kc nj.ct x.enc):G9 .i (.int x.nG):=oB 1 h rfl rfl
theorem nj.nj9 {x:nj} (h:kc nj.ct x.enc):G9 .i (.int x.Count):=oB 2 h rfl rfl
theorem nj.nj_ {x:nj} (h:kc nj.ct x.enc):G9 (.sl [.i]) (.sl x.oe):=oB 3 h rfl rfl
structure nv where
 Ring:nE
 n9:nj
 nD:Rows
 Next:Int
def nv.enc (x:nv):List DC:=[.int x.Ring.oA,.int x.Ring.nG,.int x.Ring.Head,.int x.Ring.qQ,.int x.n9.oA,.int x.n9.nG,.int x.n9.Count,.sl x.n9.oe,.sl x.nD,.int x.Next]
def nv.nd (r:List DC) (o:Nat):nv:=⟨nE.nd r (o+0),nj.nd r (o+4),rR r (o+8),rI r (o+9)⟩
def nv.ct:List CT:=[.i,.i,.i,.i,.i,.i,.i,.sl [.i],.sl [.i,.i,.sl [.i]],.i]
theorem nv.eta {r:List DC} (h:kc nv.ct r):(nv.nd r 0).enc=r:=(show (nv.nd r 0).enc=sN nv.ct r 0 from by kernel_rfl).trans (ra h)
theorem nv.nB {r:List CT} {ds:List DC} (h:kc (nv.ct++r) ds):∃(x:nv) (aX:List DC),ds=x.enc++aX∧kc nv.ct x.enc∧kc r aX:=by
 obtain⟨d1,d2,rfl,h1,h2⟩:=qt h
 exact⟨nv.nd d1 0,d2,by rw[nv.eta h1],by rw[nv.eta h1];exact h1,h2⟩
theorem nv.nw6 {x:nv} (h:kc nv.ct x.enc):kc nE.ct x.Ring.enc:=yr 0 4 h
theorem nv.ntY {x:nv} (h:kc nv.ct x.enc):kc nj.ct x.n9.enc:=yr 4 4 h
theorem nv.Rp {x:nv} (h:kc nv.ct x.enc):G9 (.sl [.i,.i,.sl [.i]]) (.sl x.nD):=oB 8 h rfl rfl
theorem nv.ntX {x:nv} (h:kc nv.ct x.enc):G9 .i (.int x.Next):=oB 9 h rfl rfl
structure pN where
 Priority:Int
 Kind:Int
 pZ:Int
 noZ:Int
 X4:Int
 ncz:Int
 PJ:Int
 Action:Int
 Queue:Int
def pN.enc (x:pN):List DC:=[.int x.Priority,.int x.Kind,.int x.pZ,.int x.noZ,.int x.X4,.int x.ncz,.int x.PJ,.int x.Action,.int x.Queue]
def pN.nd (r:List DC) (o:Nat):pN:=⟨rI r (o+0),rI r (o+1),rI r (o+2),rI r (o+3),rI r (o+4),rI r (o+5),rI r (o+6),rI r (o+7),rI r (o+8)⟩
def pN.ct:List CT:=[.i,.i,.i,.i,.i,.i,.i,.i,.i]
theorem pN.eta {r:List DC} (h:kc pN.ct r):(pN.nd r 0).enc=r:=(show (pN.nd r 0).enc=sN pN.ct r 0 from by kernel_rfl).trans (ra h)
theorem pN.nB {r:List CT} {ds:List DC} (h:kc (pN.ct++r) ds):∃(x:pN) (aX:List DC),ds=x.enc++aX∧kc pN.ct x.enc∧kc r aX:=by
 obtain⟨d1,d2,rfl,h1,h2⟩:=qt h
 exact⟨pN.nd d1 0,d2,by rw[pN.eta h1],by rw[pN.eta h1];exact h1,h2⟩
theorem pN.no3 {x:pN} (h:kc pN.ct x.enc):G9 .i (.int x.Kind):=oB 1 h rfl rfl
theorem pN.nkb {x:pN} (h:kc pN.ct x.enc):G9 .i (.int x.pZ):=oB 2 h rfl rfl
theorem pN.nvA {x:pN} (h:kc pN.ct x.enc):G9 .i (.int x.PJ):=oB 6 h rfl rfl
theorem pN.nwN {x:pN} (h:kc pN.ct x.enc):G9 .i (.int x.Queue):=oB 8 h rfl rfl
structure qZ where
 State:Int
 xN:nO
 Queue:Int
def qZ.enc (x:qZ):List DC:=[.int x.State,.int x.xN.Kind,.int x.xN.pZ,.int x.xN.qh,.int x.xN.ox,.int x.xN.ov,.int x.Queue]
def qZ.nd (r:List DC) (o:Nat):qZ:=⟨rI r (o+0),nO.nd r (o+1),rI r (o+6)⟩
def qZ.ct:List CT:=[.i,.i,.i,.i,.i,.i,.i]
theorem qZ.eta {r:List DC} (h:kc qZ.ct r):(qZ.nd r 0).enc=r:=(show (qZ.nd r 0).enc=sN qZ.ct r 0 from by kernel_rfl).trans (ra h)
theorem qZ.nB {r:List CT} {ds:List DC} (h:kc (qZ.ct++r) ds):∃(x:qZ) (aX:List DC),ds=x.enc++aX∧kc qZ.ct x.enc∧kc r aX:=by
 obtain⟨d1,d2,rfl,h1,h2⟩:=qt h
 exact⟨qZ.nd d1 0,d2,by rw[qZ.eta h1],by rw[qZ.eta h1];exact h1,h2⟩
theorem qZ.nw3 {x:qZ} (h:kc qZ.ct x.enc):kc nO.ct x.xN.enc:=yr 1 5 h
theorem qZ.nwN {x:qZ} (h:kc qZ.ct x.enc):G9 .i (.int x.Queue):=oB 6 h rfl rfl
structure ni where
 nH:Rows
def ni.enc (x:ni):List DC:=[.sl x.nH]
def ni.nd (r:List DC) (o:Nat):ni:=⟨rR r (o+0)⟩
def ni.ct:List CT:=[.sl [.i,.i,.i,.i,.i,.i,.i]]
theorem ni.eta {r:List DC} (h:kc ni.ct r):(ni.nd r 0).enc=r:=(show (ni.nd r 0).enc=sN ni.ct r 0 from by kernel_rfl).trans (ra h)
theorem ni.nB {r:List CT} {ds:List DC} (h:kc (ni.ct++r) ds):∃(x:ni) (aX:List DC),ds=x.enc++aX∧kc ni.ct x.enc∧kc r aX:=by
 obtain⟨d1,d2,rfl,h1,h2⟩:=qt h
 exact⟨ni.nd d1 0,d2,by rw[ni.eta h1],by rw[ni.eta h1];exact h1,h2⟩
theorem ni.V_ {x:ni} (h:kc ni.ct x.enc):G9 (.sl [.i,.i,.i,.i,.i,.i,.i]) (.sl x.nH):=oB 0 h rfl rfl
structure nm where
 oM:Rows
 Table:ni
 oa:nI
def nm.enc (x:nm):List DC:=[.sl x.oM,.sl x.Table.nH,.str x.oa.Key,.sl x.oa.Table]
def nm.nd (r:List DC) (o:Nat):nm:=⟨rR r (o+0),ni.nd r (o+1),nI.nd r (o+2)⟩
def nm.ct:List CT:=[.sl [.i,.i,.i,.i,.i,.i,.i,.i,.i],.sl [.i,.i,.i,.i,.i,.i,.i],.str,.sl [.i]]
theorem nm.eta {r:List DC} (h:kc nm.ct r):(nm.nd r 0).enc=r:=(show (nm.nd r 0).enc=sN nm.ct r 0 from by kernel_rfl).trans (ra h)
theorem nm.nB {r:List CT} {ds:List DC} (h:kc (nm.ct++r) ds):∃(x:nm) (aX:List DC),ds=x.enc++aX∧kc nm.ct x.enc∧kc r aX:=by
 obtain⟨d1,d2,rfl,h1,h2⟩:=qt h
 exact⟨nm.nd d1 0,d2,by rw[nm.eta h1],by rw[nm.eta h1];exact h1,h2⟩
theorem nm.nrD {x:nm} (h:kc nm.ct x.enc):G9 (.sl [.i,.i,.i,.i,.i,.i,.i,.i,.i]) (.sl x.oM):=oB 0 h rfl rfl
theorem nm.Wa {x:nm} (h:kc nm.ct x.enc):kc ni.ct x.Table.enc:=yr 1 1 h
theorem nm.nvS {x:nm} (h:kc nm.ct x.enc):kc nI.ct x.oa.enc:=yr 2 2 h
structure nt where
 n_:nc
 Maps:Rows
 Tx:nv
 Rx:Rows
 nR:Rows
 nN:Rows
 nT:Rows
 Filter:nF
 nk:nm
 oE:Rows
 p9:Bool
 tU:Rows
 oG:Rows
 oU:Rows
 Counters:ot
def nt.enc (x:nt):List DC:=[.sl x.n_.nL,.sl x.Maps,.int x.Tx.Ring.oA,.int x.Tx.Ring.nG,.int x.Tx.Ring.Head,.int x.Tx.Ring.qQ,.int x.Tx.n9.oA,.int x.Tx.n9.nG,.int x.Tx.n9.Count,.sl x.Tx.n9.oe,.sl x.Tx.nD,.int x.Tx.Next,.sl x.Rx,.sl x.nR,.sl x.nN,.sl x.nT,.int x.Filter.Wj,.bool x.Filter.oH,.sl x.Filter.pE,.sl x.nk.oM,.sl x.nk.Table.nH,.str x.nk.oa.Key,.sl x.nk.oa.Table,.sl x.oE,.bool x.p9,.sl x.tU,.sl x.oG,.sl x.oU,.int x.Counters.Frames,.int x.Counters.Bad,.int x.Counters.pX,.int x.Counters.qz,.int x.Counters.tz]
def nt.nd (r:List DC) (o:Nat):nt:=⟨nc.nd r (o+0),rR r (o+1),nv.nd r (o+2),rR r (o+12),rR r (o+13),rR r (o+14),rR r (o+15),nF.nd r (o+16),nm.nd r (o+19),rR r (o+23),rB r (o+24),rR r (o+25),rR r (o+26),rR r (o+27),ot.nd r (o+28)⟩
def nt.ct:List CT:=[.sl [.str],.sl [.i,.i,.i,.bool],.i,.i,.i,.i,.i,.i,.i,.sl [.i],.sl [.i,.i,.sl [.i]],.i,.sl [.i,.i,.i,.i,.i,.i,.i,.i,.i,.i,.i,.i,.i,.i,.i,.i,.i,.i,.i,.i,.i,.i,.i,.i,.i,.str,.i,.i,.bool,.i],.sl [.i,.i,.i,.sl [.i]],.sl [.i,.i,.i,.i,.bool,.bool],.sl [.bool],.i,.bool,.sl [.i],.sl [.i,.i,.i,.i,.i,.i,.i,.i,.i],.sl [.i,.i,.i,.i,.i,.i,.i],.str,.sl [.i],.sl [.i,.i,.i,.i,.i,.i,.str,.bool],.bool,.sl [.str],.sl [.i],.sl [.i],.i,.i,.i,.i,.i]
theorem nt.eta {r:List DC} (h:kc nt.ct r):(nt.nd r 0).enc=r:=(show (nt.nd r 0).enc=sN nt.ct r 0 from by kernel_rfl).trans (ra h)
theorem nt.nB {r:List CT} {ds:List DC} (h:kc (nt.ct++r) ds):∃(x:nt) (aX:List DC),ds=x.enc++aX∧kc nt.ct x.enc∧kc r aX:=by
 obtain⟨d1,d2,rfl,h1,h2⟩:=qt h
 exact⟨nt.nd d1 0,d2,by rw[nt.eta h1],by rw[nt.eta h1];exact h1,h2⟩
theorem nt.nl9 {x:nt} (h:kc nt.ct x.enc):kc nc.ct x.n_.enc:=yr 0 1 h
theorem nt.ntW {x:nt} (h:kc nt.ct x.enc):G9 (.sl [.i,.i,.i,.bool]) (.sl x.Maps):=oB 1 h rfl rfl
theorem nt.nwP {x:nt} (h:kc nt.ct x.enc):kc nv.ct x.Tx.enc:=yr 2 10 h
theorem nt.nuy {x:nt} (h:kc nt.ct x.enc):G9 (.sl [.i,.i,.i,.i,.i,.i,.i,.i,.i,.i,.i,.i,.i,.i,.i,.i,.i,.i,.i,.i,.i,.i,.i,.i,.i,.str,.i,.i,.bool,.i]) (.sl x.Rx):=oB 12 h rfl rfl
theorem nt.Sg {x:nt} (h:kc nt.ct x.enc):G9 (.sl [.i,.i,.i,.sl [.i]]) (.sl x.nR):=oB 13 h rfl rfl
theorem nt.nag {x:nt} (h:kc nt.ct x.enc):G9 (.sl [.i,.i,.i,.i,.bool,.bool]) (.sl x.nN):=oB 14 h rfl rfl
theorem nt.nae {x:nt} (h:kc nt.ct x.enc):G9 (.sl [.bool]) (.sl x.nT):=oB 15 h rfl rfl
theorem nt.ns4 {x:nt} (h:kc nt.ct x.enc):kc nF.ct x.Filter.enc:=yr 16 3 h
theorem nt.nmx {x:nt} (h:kc nt.ct x.enc):kc nm.ct x.nk.enc:=yr 19 4 h
theorem nt.naf {x:nt} (h:kc nt.ct x.enc):G9 (.sl [.i,.i,.i,.i,.i,.i,.str,.bool]) (.sl x.oE):=oB 23 h rfl rfl
theorem nt.nw8 {x:nt} (h:kc nt.ct x.enc):G9 (.sl [.str]) (.sl x.tU):=oB 25 h rfl rfl
theorem nt.ntV {x:nt} (h:kc nt.ct x.enc):G9 (.sl [.i]) (.sl x.oG):=oB 26 h rfl rfl
theorem nt.nux {x:nt} (h:kc nt.ct x.enc):G9 (.sl [.i]) (.sl x.oU):=oB 27 h rfl rfl
def toL (rf:List DC→List DC) {α:Type} (ke:α) (k_:Rows→α) (a:Rows) (oP:Int→Rows→α) (i:Int) (out:Rows):α:=
 bif decide (i<len a) then bif Ei (Ei (Ei true (idx i a)) (idx i out)) (inl (Int.toNat i) out) then oP (nS (i+1)) (List.set out (Int.toNat i) (bT (nth out (Int.toNat i)) 0 (rf (nth a (Int.toNat i))))) else ke else k_ out
def nl4 (rf:List DC→List DC) {α:Type} (ke:α) (k_:Rows→α) (N:Nat) (a:Rows) (m_:Nat):Int→Rows→α:=
 Nat.rec (motive:=fun _=>Int→Rows→α) (fun _ _=>ke) (fun _ oP=>toL rf ke k_ a oP) m_
def toT (z:Nat) (d:List DC) {α:Type} (ke:α) (k_:Rows→α) (l0:Int→Rows→α) (a:Rows):α:=
 bif Ei true (Po z (len a) (len a)) then l0 0 (List.replicate (Int.toNat (len a)) d) else ke
def ZU (z:Nat) (d:List DC) (rf:List DC→List DC) {α:Type} (ke:α) (k_:Rows→α) (N:Nat) (a:Rows):α:=toT z d ke k_ (nl4 rf ke k_ N a N) a
theorem ntR {α:Type} (z:Nat) (hz:z≤8388608) (d:List DC) (rf:List DC→List DC) (ke:α) (k_:Rows→α) (a:Rows) (hl:a.length≤9223372036854775807) (Ji:sm a=true) (hr:∀r∈a,bT d 0 (rf r)=r):∃N,ZU z d rf ke k_ N a=k_ a:=by
 refine⟨a.length+1, ?_⟩
 unfold ZU toT
 have e0:Int.toNat (len a)=a.length:=by simp [len]
 simp only[ntB Ji hz,ng,cond_true,e0]
 refine npf a (nl4 rf ke k_ (a.length+1) a) k_ d (fun o r=>bT o 0 (rf r)) ?_ ?_ hr
 ·intro n i out h ho
  show toL rf ke k_ a (nl4 rf ke k_ (a.length+1) a n) (i:Int) out=_
  simp only[toL,pw h,nY h,ntq ho h,qC (show i<out.length by omega),oO h hl,Int.toNat_natCast,ng,nn,cond_true]
 ·intro n out ho
  show toL rf ke k_ a (nl4 rf ke k_ (a.length+1) a n) (a.length:Int) out=_
  simp only[toL,nX,cond_false]
def eqL {σ:Type} (dec:List DC→σ) {α:Type} (ke:α) (k_:Bool→α) (a b:Rows) (oP:Int→α) (i:Int):α:=
 bif decide (i<len a) then bif Ei (Ei (Ei true (idx i a)) (idx i b)) (same (dec (nth a (Int.toNat i))) (dec (nth b (Int.toNat i)))) then bif !(pF (dec (nth a (Int.toNat i))) (dec (nth b (Int.toNat i)))) then k_ false else oP (nS (i+1)) else ke else k_ true
def nmy {σ:Type} (dec:List DC→σ) {α:Type} (ke:α) (k_:Bool→α) (N:Nat) (a b:Rows) (m_:Nat):Int→α:=
 Nat.rec (motive:=fun _=>Int→α) (fun _=>ke) (fun _ oP=>eqL dec ke k_ a b oP) m_
def eqT {α:Type} (ke:α) (k_:Bool→α) (l0:Int→α) (a b:Rows):α:=bif (len a) != (len b) then k_ false else l0 0
def ncr {σ:Type} (dec:List DC→σ) {α:Type} (ke:α) (k_:Bool→α) (N:Nat) (a b:Rows):α:=eqT ke k_ (nmy dec ke k_ N a b N) a b
theorem nt4 {α σ:Type} (dec:List DC→σ) (ke:α) (k_:Bool→α) (a b:Rows) (hl:a.length≤9223372036854775807) (aJ:same a b=true):∃N,ncr dec ke k_ N a b=k_ (pF a b):=by
 obtain rfl:=rA aJ
 refine⟨a.length+1, ?_⟩
 unfold ncr eqT
 simp only[bne_self_eq_false,cond_false]
 refine (rb a (nmy dec ke k_ (a.length+1) a a) (fun _ _ c=>c) (k_ true) ?_ ?_).trans (no1 _ _ _)
 ·intro n i h
  show eqL dec ke k_ a a (nmy dec ke k_ (a.length+1) a a n) (i:Int)=_
  simp only[eqL,pw h,nY h,oO h hl,Int.toNat_natCast,ng,nn,cond_true,cond_false,pV,pF,Bool.not_true]
 ·intro n
  show eqL dec ke k_ a a (nmy dec ke k_ (a.length+1) a a n) (a.length:Int)=_
  simp only[eqL,nX,cond_false]
def nse {α:Type} (k_:Int→α) (a:Rows) (left:Int):α:=
 bif decide (nS (left - (len a))<0) then k_ (-1)
 else k_ (nS (left - (len a)))
theorem xI {α:Type} (k_:Int→α) (a:Rows) (left:Int):nse k_ a left=k_ (oI a left):=by
 exact Ka rfl rfl
def SC {α:Type} (k_:Int→α) (a:nF) (left:Int):α:=
 bif decide (oI a.pE left<0) then k_ (-1)
 else k_ (oI a.pE left)
def qR (a:nF) (left:Int):Int:=SC id a left
theorem nnM {α:Type} (k_:Int→α) (a:nF) (left:Int):SC k_ a left=k_ (qR a left):=by
 exact Ka rfl rfl
def njA {α:Type} (k_:ot→α) (a:ot):α:=
 k_ a
theorem njy {α:Type} (k_:ot→α) (a:ot):njA k_ a=k_ (oD a):=by
 rfl
def Yy {α:Type} (k_:Bool→α) (a b:nA):α:=
 bif a.Kind != b.Kind then k_ false
 else bif a.ox != b.ox then k_ false
 else bif a.ov != b.ov then k_ false
 else bif a.Seq != b.Seq then k_ false
 else bif a.Ack != b.Ack then k_ false
 else bif a.Flags != b.Flags then k_ false
 else bif a.uF != b.uF then k_ false
 else bif !(a.Body==b.Body) then k_ false
 else k_ true
theorem nkD {α:Type} (k_:Bool→α) (a b:nA) (aJ:same a b=true):Yy k_ a b=k_ (pF a b):=by
 obtain rfl:=rA aJ
 simp only[Yy,pV,pF,bne_self_eq_false,beq_self_eq_true,Bool.not_true,cond_false,cond_true,ng,nn]
def nbh (k_:Bool→α) (a b:nC):α:=
 bif a.NY != b.NY then k_ false
 else bif a.N0 != b.N0 then k_ false
 else bif a.PJ != b.PJ then k_ false
 else bif a.Tos != b.Tos then k_ false
 else bif a.Id != b.Id then k_ false
 else bif a.Ttl != b.Ttl then k_ false
 else bif a.pZ != b.pZ then k_ false
 else bif a.qh != b.qh then k_ false
 else bif Ei true (same a.qO b.qO) then
   bif !(pF a.qO b.qO) then k_ false
   else k_ true
  else ke
theorem nnl (k_:Bool→α) (a b:nC) (aJ:same a b=true):nbh ke k_ a b=k_ (pF a b):=by
 obtain rfl:=rA aJ
 simp only[nbh,pV,pF,bne_self_eq_false,beq_self_eq_true,Bool.not_true,cond_false,cond_true,ng,nn]
def ndl (k_:Bool→α) (a b:pr):α:=
 bif Ei true (same a.nV b.nV) then
  bif !(pF a.nV b.nV) then k_ false
  else bif a.nG != b.nG then k_ false
  else bif a.Count != b.Count then k_ false
  else k_ true
 else ke
theorem np_ (k_:Bool→α) (a b:pr) (aJ:same a b=true):ndl ke k_ a b=k_ (pF a b):=by
 obtain rfl:=rA aJ
 simp only[ndl,pV,pF,bne_self_eq_false,beq_self_eq_true,Bool.not_true,cond_false,cond_true,ng,nn]
def nry:List DC→List DC:=fun r=>[.int (rI r 0)]
theorem nsm (k_:Rows→α) (a:Rows) (qs:G9 (.sl [.i]) (.sl a)) (aJ:sm a=true):∃N,ZU 8 [.int 0] nry ke k_ N a=k_ (oD a):=by
 obtain⟨hl,hw⟩:=oJ qs
 exact ntR 8 (by omega) [.int 0] nry ke k_ a hl aJ (fun r hr=>(qL rfl).trans (by exact nwY (hw r hr)))
def NG (k_:nF→α) (a:nF):α:=
 bif Ei true (sm a.pE) then
  k_ (⟨a.Wj,a.oH,oD a.pE⟩:nF)
 else ke
def uT (a:nF):Bool:=NG false (fun _=>true) a
theorem nn0 (k_:nF→α) (a:nF) (aJ:uT a=true):NG ke k_ a=k_ (oD a):=by
 exact ru (fun _=>rfl) aJ
def nsp {α:Type} (k_:nE→α) (a:nE):α:=
 k_ a
theorem nso {α:Type} (k_:nE→α) (a:nE):nsp k_ a=k_ (oD a):=by
 rfl
def XU {α:Type} (k_:nf→α) (a:nf):α:=
 k_ a
theorem XS {α:Type} (k_:nf→α) (a:nf):XU k_ a=k_ (oD a):=by
 rfl
def nlz {α:Type} (k_:nA→α) (a:nA):α:=
 k_ a
theorem nlx {α:Type} (k_:nA→α) (a:nA):nlz k_ a=k_ (oD a):=by
 rfl
def nn6 {α:Type} (k_:nC→α) (a:nC):α:=
 k_ (⟨a.NY,a.N0,a.PJ,a.Tos,a.Id,a.Ttl,a.pZ,a.qh,oD a.qO⟩:nC)
theorem nn4 {α:Type} (k_:nC→α) (a:nC):nn6 k_ a=k_ (oD a):=by
 rfl
def nqF {α:Type} (k_:pr→α) (a:pr):α:=
 k_ (⟨oD a.nV,a.nG,a.Count⟩:pr)
theorem nqD {α:Type} (k_:pr→α) (a:pr):nqF k_ a=k_ (oD a):=by
 rfl
def nlw {α:Type} (k_:nr→α) (a:nr):α:=
 k_ (⟨oD a.Ring,oD a.Device,oD a.Driver,oD a.pO,a.TA,a.Tz⟩:nr)
theorem nlu {α:Type} (k_:nr→α) (a:nr):nlw k_ a=k_ (oD a):=by
 rfl
def nab:List DC→List DC:=fun r=>nr.enc (oD (nr.nd r 0))
theorem njE (k_:Rows→α) (a:Rows) (qs:G9 (.sl [.i,.i,.i,.i,.i,.i,.i,.i,.i,.i,.i,.i,.i,.i,.i,.i,.i,.i,.i,.i,.i,.i,.i,.i,.i,.str,.i,.i,.bool,.i]) (.sl a)) (aJ:sm a=true):∃N,ZU 248 [.int 0,.int 0,.int 0,.int 0,.int 0,.int 0,.int 0,.int 0,.int 0,.int 0,.int 0,.int 0,.int 0,.int 0,.int 0,.int 0,.int 0,.int 0,.int 0,.int 0,.int 0,.int 0,.int 0,.int 0,.int 0,.str [],.int 0,.int 0,.bool false,.int 0] nab ke k_ N a=k_ (oD a):=by
 obtain⟨hl,hw⟩:=oJ qs
 exact ntR 248 (by omega) [.int 0,.int 0,.int 0,.int 0,.int 0,.int 0,.int 0,.int 0,.int 0,.int 0,.int 0,.int 0,.int 0,.int 0,.int 0,.int 0,.int 0,.int 0,.int 0,.int 0,.int 0,.int 0,.int 0,.int 0,.int 0,.str [],.int 0,.int 0,.bool false,.int 0] nab ke k_ a hl aJ (fun r hr=>(qL rfl).trans (by exact nr.eta (hw r hr)))
def xX (k_:Bool→α) (a b:Rows) (oP:Int→α) (i:Int):α:=
 bif decide (i<len a) then
  bif Ei (Ei true (idx i a)) (idx i b) then
   bif !((rS (nth a (Int.toNat i)) 0)==(rS (nth b (Int.toNat i)) 0)) then k_ false
   else oP (nS (i+1))
  else ke
 else k_ true
def xW (k_:Bool→α) (N:Nat) (a b:Rows) (m_:Nat):Int→α:=
 Nat.rec (motive:=fun _=>Int→α) (fun _=>ke) (fun _ oP=>xX ke k_ a b oP) m_
theorem S7 (k_:Bool→α) (N:Nat) (a b:Rows) (m_:Nat):xW ke k_ N a b (m_+1)=xX ke k_ a b (xW ke k_ N a b m_):=rfl
def Qh {α:Type} (ke:α) (k_:Bool→α) (l0:Int→α) (a b:Rows):α:=
 bif (len a) != (len b) then k_ false
 else l0 0
def YE (k_:Bool→α) (N:Nat) (a b:Rows):α:=Qh ke k_ (xW ke k_ N a b N) a b
theorem nkI (k_:Bool→α) (a b:Rows) (qs:G9 (.sl [.str]) (.sl a)) (aJ:same a b=true):∃N,YE ke k_ N a b=k_ (pF a b):=by
 obtain rfl:=rA aJ
 obtain⟨hl,_⟩:=oJ qs
 refine⟨a.length+1, ?_⟩
 unfold YE Qh
 simp only[bne_self_eq_false,cond_false]
 refine (rb a (xW ke k_ (a.length+1) a a) (fun _ _ c=>c) (k_ true) ?_ ?_).trans (no1 _ _ _)
 ·intro n i h
  rw[S7]
  simp only[xX,pw h,nY h,oO h hl,Int.toNat_natCast,ng,nn,cond_true,cond_false,bne_self_eq_false,beq_self_eq_true,Bool.not_true,pV,pF]
 ·intro n
  rw[S7]
  simp only[xX,nX,cond_false]
def nbf (k_:Bool→α) (a b:nc):α:=
 bif Ei true (same a.nL b.nL) then
  bif !(pF a.nL b.nL) then k_ false
  else k_ true
 else ke
theorem nnj (k_:Bool→α) (a b:nc) (aJ:same a b=true):nbf ke k_ a b=k_ (pF a b):=by
 obtain rfl:=rA aJ
 simp only[nbf,pV,pF,bne_self_eq_false,beq_self_eq_true,Bool.not_true,cond_false,cond_true,ng,nn]
def nlt {α:Type} (k_:pb→α) (a:pb):α:=
 k_ a
theorem nlr {α:Type} (k_:pb→α) (a:pb):nlt k_ a=k_ (oD a):=by
 rfl
def nbn {α:Type} (k_:Bool→α) (a b:nx):α:=
 bif a.yu != b.yu then k_ false
 else bif a.OD != b.OD then k_ false
 else bif a.Count != b.Count then k_ false
 else bif a.Time != b.Time then k_ false
 else bif !(a.T0==b.T0) then k_ false
 else bif !(a.P_==b.P_) then k_ false
 else k_ true
theorem nnv {α:Type} (k_:Bool→α) (a b:nx) (aJ:same a b=true):nbn k_ a b=k_ (pF a b):=by
 obtain rfl:=rA aJ
 simp only[nbn,pV,pF,bne_self_eq_false,beq_self_eq_true,Bool.not_true,cond_false,cond_true,ng,nn]
def nsj {α:Type} (k_:nO→α) (a:nO):α:=
 k_ a
theorem nsi {α:Type} (k_:nO→α) (a:nO):nsj k_ a=k_ (oD a):=by
 rfl
def noe {α:Type} (k_:nJ→α) (a:nJ):α:=
 k_ (⟨oD a.xN,a.Next,a.Data,a.X3⟩:nJ)
theorem noc {α:Type} (k_:nJ→α) (a:nJ):noe k_ a=k_ (oD a):=by
 rfl
def neI:List DC→List DC:=fun r=>nJ.enc (oD (nJ.nd r 0))
theorem nlA (k_:Rows→α) (a:Rows) (qs:G9 (.sl [.i,.i,.i,.i,.i,.i,.str,.bool]) (.sl a)) (aJ:sm a=true):∃N,ZU 72 [.int 0,.int 0,.int 0,.int 0,.int 0,.int 0,.str [],.bool false] neI ke k_ N a=k_ (oD a):=by
 obtain⟨hl,hw⟩:=oJ qs
 exact ntR 72 (by omega) [.int 0,.int 0,.int 0,.int 0,.int 0,.int 0,.str [],.bool false] neI ke k_ a hl aJ (fun r hr=>(qL rfl).trans (by exact nJ.eta (hw r hr)))
def SF {α:Type} (k_:Int→α) (a:nI) (left:Int):α:=
 let z0:Int:=nS (left - (len a.Key))
 let z1:Int:=oI a.Table z0
 bif decide (z0<0) then k_ (-1)
 else bif decide (z1<0) then k_ (-1)
 else k_ z1
def v9 (a:nI) (left:Int):Int:=SF id a left
theorem nnU {α:Type} (k_:Int→α) (a:nI) (left:Int):SF k_ a left=k_ (v9 a left):=by
 exact Ka rfl (Ka rfl rfl)
def RJ (k_:py→α) (a:py):α:=
 bif Ei true (sm a.OA) then
  k_ (⟨a.qf,a.nH,oD a.OA⟩:py)
 else ke
def ua (a:py):Bool:=RJ false (fun _=>true) a
theorem nst (k_:py→α) (a:py) (aJ:ua a=true):RJ ke k_ a=k_ (oD a):=by
 exact ru (fun _=>rfl) aJ
def NL (k_:Rows→α) (a:Rows) (oP:Int→Rows→α) (i:Int) (oh:Rows):α:=
 bif decide (i<len a) then
  bif Ei (Ei (Ei (Ei true (idx i a)) (ua (py.nd (nth a (Int.toNat i)) 0))) (idx i oh)) ((inl (Int.toNat i) oh) && true) then
   oP (nS (i+1)) (List.set oh (Int.toNat i) (bT (nth oh (Int.toNat i)) 0 (py.enc (oD (py.nd (nth a (Int.toNat i)) 0)))))
  else ke
 else k_ oh
def NK (k_:Rows→α) (N:Nat) (a:Rows) (m_:Nat):Int→Rows→α:=
 Nat.rec (motive:=fun _=>Int→Rows→α) (fun _ _=>ke) (fun _ oP=>NL ke k_ a oP) m_
theorem Xh (k_:Rows→α) (N:Nat) (a:Rows) (m_:Nat):NK ke k_ N a (m_+1)=NL ke k_ a (NK ke k_ N a m_):=rfl
def Vx (k_:Rows→α) (l0:Int→Rows→α) (a:Rows):α:=
 bif Ei true (Po 40 (len a) (len a)) then
  l0 0 (List.replicate (Int.toNat (len a)) (([.int 0,.int 0,.sl []]):List DC))
 else ke
def ndU (k_:Rows→α) (N:Nat) (a:Rows):α:=Vx ke k_ (NK ke k_ N a N) a
def tl (a:Rows):Bool:=sm a && a.all fun r=>ua (py.nd r 0)
theorem nqx (k_:Rows→α) (a:Rows) (qs:G9 (.sl [.i,.i,.sl [.i]]) (.sl a)) (aJ:tl a=true):∃N,ndU ke k_ N a=k_ (oD a):=by
 obtain⟨hl,hw⟩:=oJ qs
 simp only[tl,Bool.and_eq_true,List.all_eq_true] at aJ
 obtain⟨Ji,hel⟩:=aJ
 refine⟨a.length+1, ?_⟩
 unfold ndU Vx
 have e0:Int.toNat (len a)=a.length:=by simp [len]
 simp only[ntB Ji (show 40≤8388608 by omega),ng,cond_true,e0]
 refine npf a (NK ke k_ (a.length+1) a) k_ [.int 0,.int 0,.sl []] (fun o r=>bT o 0 (py.enc (oD (py.nd r 0)))) ?_ ?_ ?_
 ·intro n i out h ho
  have he2:=hel (nth a i) (qi h)
  rw[Xh]
  simp only[NL,pw h,nY h,ntq ho h,qC (show i<out.length by omega),oO h hl,Int.toNat_natCast,Bool.and_true,ng,nn,cond_true,he2]
  try rfl
 ·intro n out ho
  rw[Xh]
  simp only[NL,nX,cond_false]
 ·intro r hr
  refine (qL ?_).trans ?_
  ·rfl
  ·exact py.eta (hw r hr)
def neJ:List DC→List DC:=fun r=>[.str (rS r 0)]
theorem nlD (k_:Rows→α) (a:Rows) (qs:G9 (.sl [.str]) (.sl a)) (aJ:sm a=true):∃N,ZU 16 [.str []] neJ ke k_ N a=k_ (oD a):=by
 obtain⟨hl,hw⟩:=oJ qs
 exact ntR 16 (by omega) [.str []] neJ ke k_ a hl aJ (fun r hr=>(qL rfl).trans (by exact ntH (hw r hr)))
def NH (k_:nc→α) (a:nc):α:=
 bif Ei true (sm a.nL) then
  k_ (⟨oD a.nL⟩:nc)
 else ke
def uU (a:nc):Bool:=NH false (fun _=>true) a
theorem nn2 (k_:nc→α) (a:nc) (aJ:uU a=true):NH ke k_ a=k_ (oD a):=by
 exact ru (fun _=>rfl) aJ
def naa:List DC→List DC:=fun r=>pb.enc (oD (pb.nd r 0))
theorem njB (k_:Rows→α) (a:Rows) (qs:G9 (.sl [.i,.i,.i,.bool]) (.sl a)) (aJ:sm a=true):∃N,ZU 32 [.int 0,.int 0,.int 0,.bool false] naa ke k_ N a=k_ (oD a):=by
 obtain⟨hl,hw⟩:=oJ qs
 exact ntR 32 (by omega) [.int 0,.int 0,.int 0,.bool false] naa ke k_ a hl aJ (fun r hr=>(qL rfl).trans (by exact pb.eta (hw r hr)))
def RI (k_:nj→α) (a:nj):α:=
 bif Ei true (sm a.oe) then
  k_ (⟨a.oA,a.nG,a.Count,oD a.oe⟩:nj)
 else ke
def sY (a:nj):Bool:=RI false (fun _=>true) a
theorem nsn (k_:nj→α) (a:nj) (aJ:sY a=true):RI ke k_ a=k_ (oD a):=by
 exact ru (fun _=>rfl) aJ
def zp (k_:nv→α) (a:nv):α:=
 bif Ei true (sY a.n9) then
  bif Ei true (tl a.nD) then
   k_ (⟨oD a.Ring,oD a.n9,oD a.nD,a.Next⟩:nv)
  else ke
 else ke
def uh (a:nv):Bool:=zp false (fun _=>true) a
theorem nlE (k_:nv→α) (a:nv) (aJ:uh a=true):zp ke k_ a=k_ (oD a):=by
 exact ru (ru (fun _=>rfl)) aJ
def NJ (k_:Rows→α) (a:Rows) (oP:Int→Rows→α) (i:Int) (oh:Rows):α:=
 bif decide (i<len a) then
  bif Ei (Ei (Ei (Ei true (idx i a)) (sY (nj.nd (nth a (Int.toNat i)) 0))) (idx i oh)) ((inl (Int.toNat i) oh) && true) then
   oP (nS (i+1)) (List.set oh (Int.toNat i) (bT (nth oh (Int.toNat i)) 0 (nj.enc (oD (nj.nd (nth a (Int.toNat i)) 0)))))
  else ke
 else k_ oh
def NI (k_:Rows→α) (N:Nat) (a:Rows) (m_:Nat):Int→Rows→α:=
 Nat.rec (motive:=fun _=>Int→Rows→α) (fun _ _=>ke) (fun _ oP=>NJ ke k_ a oP) m_
theorem Xd (k_:Rows→α) (N:Nat) (a:Rows) (m_:Nat):NI ke k_ N a (m_+1)=NJ ke k_ a (NI ke k_ N a m_):=rfl
def Vu (k_:Rows→α) (l0:Int→Rows→α) (a:Rows):α:=
 bif Ei true (Po 48 (len a) (len a)) then
  l0 0 (List.replicate (Int.toNat (len a)) (([.int 0,.int 0,.int 0,.sl []]):List DC))
 else ke
def ndN (k_:Rows→α) (N:Nat) (a:Rows):α:=Vu ke k_ (NI ke k_ N a N) a
def uq (a:Rows):Bool:=sm a && a.all fun r=>sY (nj.nd r 0)
theorem nqr (k_:Rows→α) (a:Rows) (qs:G9 (.sl [.i,.i,.i,.sl [.i]]) (.sl a)) (aJ:uq a=true):∃N,ndN ke k_ N a=k_ (oD a):=by
 obtain⟨hl,hw⟩:=oJ qs
 simp only[uq,Bool.and_eq_true,List.all_eq_true] at aJ
 obtain⟨Ji,hel⟩:=aJ
 refine⟨a.length+1, ?_⟩
 unfold ndN Vu
 have e0:Int.toNat (len a)=a.length:=by simp [len]
 simp only[ntB Ji (show 48≤8388608 by omega),ng,cond_true,e0]
 refine npf a (NI ke k_ (a.length+1) a) k_ [.int 0,.int 0,.int 0,.sl []] (fun o r=>bT o 0 (nj.enc (oD (nj.nd r 0)))) ?_ ?_ ?_
 ·intro n i out h ho
  have he2:=hel (nth a i) (qi h)
  rw[Xd]
  simp only[NJ,pw h,nY h,ntq ho h,qC (show i<out.length by omega),oO h hl,Int.toNat_natCast,Bool.and_true,ng,nn,cond_true,he2]
  try rfl
 ·intro n out ho
  rw[Xd]
  simp only[NJ,nX,cond_false]
 ·intro r hr
  refine (qL ?_).trans ?_
  ·rfl
  ·exact nj.eta (hw r hr)
def noh {α:Type} (k_:nx→α) (a:nx):α:=
 k_ a
theorem nof {α:Type} (k_:nx→α) (a:nx):noh k_ a=k_ (oD a):=by
 rfl
def neK:List DC→List DC:=fun r=>nx.enc (oD (nx.nd r 0))
theorem nlG (k_:Rows→α) (a:Rows) (qs:G9 (.sl [.i,.i,.i,.i,.bool,.bool]) (.sl a)) (aJ:sm a=true):∃N,ZU 40 [.int 0,.int 0,.int 0,.int 0,.bool false,.bool false] neK ke k_ N a=k_ (oD a):=by
 obtain⟨hl,hw⟩:=oJ qs
 exact ntR 40 (by omega) [.int 0,.int 0,.int 0,.int 0,.bool false,.bool false] neK ke k_ a hl aJ (fun r hr=>(qL rfl).trans (by exact nx.eta (hw r hr)))
def nl3:List DC→List DC:=fun r=>[.bool (rB r 0)]
theorem nqo (k_:Rows→α) (a:Rows) (qs:G9 (.sl [.bool]) (.sl a)) (aJ:sm a=true):∃N,ZU 1 [.bool false] nl3 ke k_ N a=k_ (oD a):=by
 obtain⟨hl,hw⟩:=oJ qs
 exact ntR 1 (by omega) [.bool false] nl3 ke k_ a hl aJ (fun r hr=>(qL rfl).trans (by exact nqP (hw r hr)))
def nss {α:Type} (k_:pN→α) (a:pN):α:=
 k_ a
theorem nsq {α:Type} (k_:pN→α) (a:pN):nss k_ a=k_ (oD a):=by
 rfl
def nl5:List DC→List DC:=fun r=>pN.enc (oD (pN.nd r 0))
theorem nqu (k_:Rows→α) (a:Rows) (qs:G9 (.sl [.i,.i,.i,.i,.i,.i,.i,.i,.i]) (.sl a)) (aJ:sm a=true):∃N,ZU 72 [.int 0,.int 0,.int 0,.int 0,.int 0,.int 0,.int 0,.int 0,.int 0] nl5 ke k_ N a=k_ (oD a):=by
 obtain⟨hl,hw⟩:=oJ qs
 exact ntR 72 (by omega) [.int 0,.int 0,.int 0,.int 0,.int 0,.int 0,.int 0,.int 0,.int 0] nl5 ke k_ a hl aJ (fun r hr=>(qL rfl).trans (by exact pN.eta (hw r hr)))
def nsx {α:Type} (k_:qZ→α) (a:qZ):α:=
 k_ (⟨a.State,oD a.xN,a.Queue⟩:qZ)
theorem nsv {α:Type} (k_:qZ→α) (a:qZ):nsx k_ a=k_ (oD a):=by
 rfl
def nl6:List DC→List DC:=fun r=>qZ.enc (oD (qZ.nd r 0))
theorem nqA (k_:Rows→α) (a:Rows) (qs:G9 (.sl [.i,.i,.i,.i,.i,.i,.i]) (.sl a)) (aJ:sm a=true):∃N,ZU 56 [.int 0,.int 0,.int 0,.int 0,.int 0,.int 0,.int 0] nl6 ke k_ N a=k_ (oD a):=by
 obtain⟨hl,hw⟩:=oJ qs
 exact ntR 56 (by omega) [.int 0,.int 0,.int 0,.int 0,.int 0,.int 0,.int 0] nl6 ke k_ a hl aJ (fun r hr=>(qL rfl).trans (by exact qZ.eta (hw r hr)))
def xh (k_:ni→α) (a:ni):α:=
 bif Ei true (sm a.nH) then
  k_ (⟨oD a.nH⟩:ni)
 else ke
def ta (a:ni):Bool:=xh false (fun _=>true) a
theorem nhu (k_:ni→α) (a:ni) (aJ:ta a=true):xh ke k_ a=k_ (oD a):=by
 exact ru (fun _=>rfl) aJ
def NM (k_:nI→α) (a:nI):α:=
 bif Ei true (sm a.Table) then
  k_ (⟨a.Key,oD a.Table⟩:nI)
 else ke
def uV (a:nI):Bool:=NM false (fun _=>true) a
theorem noa (k_:nI→α) (a:nI) (aJ:uV a=true):NM ke k_ a=k_ (oD a):=by
 exact ru (fun _=>rfl) aJ
def yl (k_:nm→α) (a:nm):α:=
 bif Ei true (sm a.oM) then
  bif Ei true (ta a.Table) then
   bif Ei true (uV a.oa) then
    k_ (⟨oD a.oM,oD a.Table,oD a.oa⟩:nm)
   else ke
  else ke
 else ke
def tG (a:nm):Bool:=yl false (fun _=>true) a
theorem njH (k_:nm→α) (a:nm) (aJ:tG a=true):yl ke k_ a=k_ (oD a):=by
 exact ru (ru (ru (fun _=>rfl))) aJ
def RH (k_:nt→α) (a:nt):α:=
 bif Ei true (uU a.n_) then
  bif Ei true (sm a.Maps) then
   bif Ei true (uh a.Tx) then
    bif Ei true (sm a.Rx) then
     bif Ei true (uq a.nR) then
      bif Ei true (sm a.nN) then
       bif Ei true (sm a.nT) then
        bif Ei true (uT a.Filter) then
         bif Ei true (tG a.nk) then
          bif Ei true (sm a.oE) then
           bif Ei true (sm a.tU) then
            bif Ei true (sm a.oG) then
             bif Ei true (sm a.oU) then
              k_ (⟨oD a.n_,oD a.Maps,oD a.Tx,oD a.Rx,oD a.nR,oD a.nN,oD a.nT,oD a.Filter,oD a.nk,oD a.oE,a.p9,oD a.tU,oD a.oG,oD a.oU,oD a.Counters⟩:nt)
             else ke
            else ke
           else ke
          else ke
         else ke
        else ke
       else ke
      else ke
     else ke
    else ke
   else ke
  else ke
 else ke
def sX (a:nt):Bool:=RH false (fun _=>true) a
theorem nsk (k_:nt→α) (a:nt) (aJ:sX a=true):RH ke k_ a=k_ (oD a):=by
 exact ru (ru (ru (ru (ru (ru (ru (ru (ru (ru (ru (ru (ru (fun _=>rfl))))))))))))) aJ
def QB {α:Type} (k_:Int→α) (a:nA) (left:Int):α:=
 let z0:Int:=nS (left - (len a.Body))
 bif decide (z0<0) then k_ (-1)
 else k_ z0
def t_ (a:nA) (left:Int):Int:=QB id a left
theorem nlh {α:Type} (k_:Int→α) (a:nA) (left:Int):QB k_ a left=k_ (t_ a left):=by
 exact Ka rfl rfl
def SE {α:Type} (k_:Int→α) (a:nC) (left:Int):α:=
 bif decide (t_ a.qO left<0) then k_ (-1)
 else k_ (t_ a.qO left)
def uN (a:nC) (left:Int):Int:=SE id a left
theorem nnQ {α:Type} (k_:Int→α) (a:nC) (left:Int):SE k_ a left=k_ (uN a left):=by
 exact Ka rfl rfl
def Vq {α:Type} (k_:Int→α) (a:pr) (left:Int):α:=
 bif decide (uN a.nV left<0) then k_ (-1)
 else k_ (uN a.nV left)
def vU (a:pr) (left:Int):Int:=Vq id a left
theorem nqm {α:Type} (k_:Int→α) (a:pr) (left:Int):Vq k_ a left=k_ (vU a left):=by
 exact Ka rfl rfl
def NF {α:Type} (k_:Int→α) (a:nJ) (left:Int):α:=
 let z0:Int:=nS (left - (len a.Data))
 bif decide (z0<0) then k_ (-1)
 else k_ z0
def rZ (a:nJ) (left:Int):Int:=NF id a left
theorem nnW {α:Type} (k_:Int→α) (a:nJ) (left:Int):NF k_ a left=k_ (rZ a left):=by
 exact Ka rfl rfl
def Pb (k_:Bool→α) (a b:Rows) (oP:Int→α) (i:Int):α:=
 bif decide (i<len a) then
  bif Ei (Ei true (idx i a)) (idx i b) then
   bif (rI (nth a (Int.toNat i)) 0) != (rI (nth b (Int.toNat i)) 0) then k_ false
   else oP (nS (i+1))
  else ke
 else k_ true
def Pa (k_:Bool→α) (N:Nat) (a b:Rows) (m_:Nat):Int→α:=
 Nat.rec (motive:=fun _=>Int→α) (fun _=>ke) (fun _ oP=>Pb ke k_ a b oP) m_
theorem Ys (k_:Bool→α) (N:Nat) (a b:Rows) (m_:Nat):Pa ke k_ N a b (m_+1)=Pb ke k_ a b (Pa ke k_ N a b m_):=rfl
def XO {α:Type} (ke:α) (k_:Bool→α) (l0:Int→α) (a b:Rows):α:=
 bif (len a) != (len b) then k_ false
 else l0 0
def nf7 (k_:Bool→α) (N:Nat) (a b:Rows):α:=XO ke k_ (Pa ke k_ N a b N) a b
theorem nr4 (k_:Bool→α) (a b:Rows) (qs:G9 (.sl [.i]) (.sl a)) (aJ:same a b=true):∃N,nf7 ke k_ N a b=k_ (pF a b):=by
 obtain rfl:=rA aJ
 obtain⟨hl,_⟩:=oJ qs
 refine⟨a.length+1, ?_⟩
 unfold nf7 XO
 simp only[bne_self_eq_false,cond_false]
 refine (rb a (Pa ke k_ (a.length+1) a a) (fun _ _ c=>c) (k_ true) ?_ ?_).trans (no1 _ _ _)
 ·intro n i h
  rw[Ys]
  simp only[Pb,pw h,nY h,oO h hl,Int.toNat_natCast,ng,nn,cond_true,cond_false,bne_self_eq_false,beq_self_eq_true,Bool.not_true,pV,pF]
 ·intro n
  rw[Ys]
  simp only[Pb,nX,cond_false]
def Nd {α:Type} (k_:Int→α) (a:nj) (left:Int):α:=
 bif decide (oI a.oe left<0) then k_ (-1)
 else k_ (oI a.oe left)
def qN (a:nj) (left:Int):Int:=Nd id a left
theorem nsf {α:Type} (k_:Int→α) (a:nj) (left:Int):Nd k_ a left=k_ (qN a left):=by
 exact Ka rfl rfl
def Of {α:Type} (k_:Int→α) (a:ni) (left:Int):α:=
 bif decide (oI a.nH left<0) then k_ (-1)
 else k_ (oI a.nH left)
def sM (a:ni) (left:Int):Int:=Of id a left
theorem nhr {α:Type} (k_:Int→α) (a:ni) (left:Int):Of k_ a left=k_ (sM a left):=by
 exact Ka rfl rfl
def yi (k_:Int→α) (a:Rows) (oP:Int→Int→α) (uK i:Int):α:=
 let z0:Int:=rZ (nJ.nd (nth a (Int.toNat i)) 0) uK
 bif decide (i<len a) then
  bif Ei true (idx i a) then
   bif decide (z0<0) then k_ (-1)
   else oP z0 (nS (i+1))
  else ke
 else k_ uK
def yh (k_:Int→α) (N:Nat) (a:Rows) (m_:Nat):Int→Int→α:=
 Nat.rec (motive:=fun _=>Int→Int→α) (fun _ _=>ke) (fun _ oP=>yi ke k_ a oP) m_
theorem Tp (k_:Int→α) (N:Nat) (a:Rows) (m_:Nat):yh ke k_ N a (m_+1)=yi ke k_ a (yh ke k_ N a m_):=rfl
def QD {α:Type} (ke:α) (k_:Int→α) (l0:Int→Int→α) (a:Rows) (left:Int):α:=
 bif decide (nS (left - (len a))<0) then k_ (-1)
 else l0 (nS (left - (len a))) 0
def Zk (k_:Int→α) (N:Nat) (a:Rows) (left:Int):α:=QD ke k_ (yh ke k_ N a N) a left
def rk (a:Rows) (left:Int):Int:=Tv (fun r l=>rZ (nJ.nd r 0) l) a left
theorem nlk (k_:Int→α) (a:Rows) (left:Int) (qs:G9 (.sl [.i,.i,.i,.i,.i,.i,.str,.bool]) (.sl a)):∃N,Zk ke k_ N a left=k_ (rk a left):=by
 obtain⟨hl,_⟩:=oJ qs
 refine⟨a.length+1, ?_⟩
 unfold Zk QD rk Tv
 refine Ka rfl ?_
 refine (TW a (fun n i l=>yh ke k_ (a.length+1) a n l i) (fun _ r c l=>bif decide ((fun r l=>rZ (nJ.nd r 0) l) r l<0) then k_ (-1) else c ((fun r l=>rZ (nJ.nd r 0) l) r l)) k_ ?_ ?_ _).trans (nsS (fun r l=>rZ (nJ.nd r 0) l) k_ a 0 _)
 ·intro n i l h
  try dsimp only
  rw[Tp]
  simp only[yi,pw h,nY h,oO h hl,Int.toNat_natCast,ng,nn,cond_true]
 ·intro n l
  try dsimp only
  rw[Tp]
  simp only[yi,nX,cond_false]
theorem nkL (k_:Bool→α) (a b:Rows) (qs:G9 (.sl [.i,.i,.i,.i,.bool,.bool]) (.sl a)) (aJ:same a b=true):∃N,ncr (fun r=>nx.nd r 0) ke k_ N a b=k_ (pF a b):=by
 exact nt4 (fun r=>nx.nd r 0) ke k_ a b (oJ qs).1 aJ
def RG {α:Type} (k_:Int→α) (a:py) (left:Int):α:=
 bif decide (oI a.OA left<0) then k_ (-1)
 else k_ (oI a.OA left)
def rV (a:py) (left:Int):Int:=RG id a left
theorem nsg {α:Type} (k_:Int→α) (a:py) (left:Int):RG k_ a left=k_ (rV a left):=by
 exact Ka rfl rfl
def ND (k_:Int→α) (a:Rows) (oP:Int→Int→α) (uK i:Int):α:=
 let z0:Int:=rV (py.nd (nth a (Int.toNat i)) 0) uK
 bif decide (i<len a) then
  bif Ei true (idx i a) then
   bif decide (z0<0) then k_ (-1)
   else oP z0 (nS (i+1))
  else ke
 else k_ uK
def NC (k_:Int→α) (N:Nat) (a:Rows) (m_:Nat):Int→Int→α:=
 Nat.rec (motive:=fun _=>Int→Int→α) (fun _ _=>ke) (fun _ oP=>ND ke k_ a oP) m_
theorem W5 (k_:Int→α) (N:Nat) (a:Rows) (m_:Nat):NC ke k_ N a (m_+1)=ND ke k_ a (NC ke k_ N a m_):=rfl
def Vo {α:Type} (ke:α) (k_:Int→α) (l0:Int→Int→α) (a:Rows) (left:Int):α:=
 bif decide (nS (left - (len a))<0) then k_ (-1)
 else l0 (nS (left - (len a))) 0
def ndF (k_:Int→α) (N:Nat) (a:Rows) (left:Int):α:=Vo ke k_ (NC ke k_ N a N) a left
def tO (a:Rows) (left:Int):Int:=Tv (fun r l=>rV (py.nd r 0) l) a left
theorem nqh (k_:Int→α) (a:Rows) (left:Int) (qs:G9 (.sl [.i,.i,.sl [.i]]) (.sl a)):∃N,ndF ke k_ N a left=k_ (tO a left):=by
 obtain⟨hl,_⟩:=oJ qs
 refine⟨a.length+1, ?_⟩
 unfold ndF Vo tO Tv
 refine Ka rfl ?_
 refine (TW a (fun n i l=>NC ke k_ (a.length+1) a n l i) (fun _ r c l=>bif decide ((fun r l=>rV (py.nd r 0) l) r l<0) then k_ (-1) else c ((fun r l=>rV (py.nd r 0) l) r l)) k_ ?_ ?_ _).trans (nsS (fun r l=>rV (py.nd r 0) l) k_ a 0 _)
 ·intro n i l h
  try dsimp only
  rw[W5]
  simp only[ND,pw h,nY h,oO h hl,Int.toNat_natCast,ng,nn,cond_true]
 ·intro n l
  try dsimp only
  rw[W5]
  simp only[ND,nX,cond_false]
def yk (k_:Int→α) (a:Rows) (oP:Int→Int→α) (uK i:Int):α:=
 let z0:Int:=nS (uK - (len (rS (nth a (Int.toNat i)) 0)))
 bif decide (i<len a) then
  bif Ei true (idx i a) then
   bif decide (z0<0) then k_ (-1)
   else oP z0 (nS (i+1))
  else ke
 else k_ uK
def yj (k_:Int→α) (N:Nat) (a:Rows) (m_:Nat):Int→Int→α:=
 Nat.rec (motive:=fun _=>Int→Int→α) (fun _ _=>ke) (fun _ oP=>yk ke k_ a oP) m_
theorem Tq (k_:Int→α) (N:Nat) (a:Rows) (m_:Nat):yj ke k_ N a (m_+1)=yk ke k_ a (yj ke k_ N a m_):=rfl
def QE {α:Type} (ke:α) (k_:Int→α) (l0:Int→Int→α) (a:Rows) (left:Int):α:=
 bif decide (nS (left - (len a))<0) then k_ (-1)
 else l0 (nS (left - (len a))) 0
def Zo (k_:Int→α) (N:Nat) (a:Rows) (left:Int):α:=QE ke k_ (yj ke k_ N a N) a left
def rl (a:Rows) (left:Int):Int:=Tv (fun r l=>nS (l - len (rS r 0))) a left
theorem nln (k_:Int→α) (a:Rows) (left:Int) (qs:G9 (.sl [.str]) (.sl a)):∃N,Zo ke k_ N a left=k_ (rl a left):=by
 obtain⟨hl,_⟩:=oJ qs
 refine⟨a.length+1, ?_⟩
 unfold Zo QE rl Tv
 refine Ka rfl ?_
 refine (TW a (fun n i l=>yj ke k_ (a.length+1) a n l i) (fun _ r c l=>bif decide ((fun r l=>nS (l - len (rS r 0))) r l<0) then k_ (-1) else c ((fun r l=>nS (l - len (rS r 0))) r l)) k_ ?_ ?_ _).trans (nsS (fun r l=>nS (l - len (rS r 0))) k_ a 0 _)
 ·intro n i l h
  try dsimp only
  rw[Tq]
  simp only[yk,pw h,nY h,oO h hl,Int.toNat_natCast,ng,nn,cond_true]
 ·intro n l
  try dsimp only
  rw[Tq]
  simp only[yk,nX,cond_false]
def SD {α:Type} (k_:Int→α) (a:nc) (left:Int):α:=
 bif decide (rl a.nL left<0) then k_ (-1)
 else k_ (rl a.nL left)
def oF (a:nc) (left:Int):Int:=SD id a left
theorem nnO {α:Type} (k_:Int→α) (a:nc) (left:Int):SD k_ a left=k_ (oF a left):=by
 exact Ka rfl rfl
def zn {α:Type} (k_:Int→α) (a:nv) (left:Int):α:=
 let z0:Int:=tO a.nD (qN a.n9 left)
 bif decide (qN a.n9 left<0) then k_ (-1)
 else bif decide (z0<0) then k_ (-1)
 else k_ z0
def oL (a:nv) (left:Int):Int:=zn id a left
theorem nlo {α:Type} (k_:Int→α) (a:nv) (left:Int):zn k_ a left=k_ (oL a left):=by
 exact Ka rfl (Ka rfl rfl)
def QA {α:Type} (k_:Int→α) (a:nr) (left:Int):α:=
 bif decide (vU a.pO left<0) then k_ (-1)
 else k_ (vU a.pO left)
def sA (a:nr) (left:Int):Int:=QA id a left
theorem nlf {α:Type} (k_:Int→α) (a:nr) (left:Int):QA k_ a left=k_ (sA a left):=by
 exact Ka rfl rfl
def xg (k_:Int→α) (a:Rows) (oP:Int→Int→α) (uK i:Int):α:=
 let z0:Int:=sA (nr.nd (nth a (Int.toNat i)) 0) uK
 bif decide (i<len a) then
  bif Ei true (idx i a) then
   bif decide (z0<0) then k_ (-1)
   else oP z0 (nS (i+1))
  else ke
 else k_ uK
def xf (k_:Int→α) (N:Nat) (a:Rows) (m_:Nat):Int→Int→α:=
 Nat.rec (motive:=fun _=>Int→Int→α) (fun _ _=>ke) (fun _ oP=>xg ke k_ a oP) m_
theorem R4 (k_:Int→α) (N:Nat) (a:Rows) (m_:Nat):xf ke k_ N a (m_+1)=xg ke k_ a (xf ke k_ N a m_):=rfl
def Pj {α:Type} (ke:α) (k_:Int→α) (l0:Int→Int→α) (a:Rows) (left:Int):α:=
 bif decide (nS (left - (len a))<0) then k_ (-1)
 else l0 (nS (left - (len a))) 0
def W4 (k_:Int→α) (N:Nat) (a:Rows) (left:Int):α:=Pj ke k_ (xf ke k_ N a N) a left
def oW (a:Rows) (left:Int):Int:=Tv (fun r l=>sA (nr.nd r 0) l) a left
theorem njp (k_:Int→α) (a:Rows) (left:Int) (qs:G9 (.sl [.i,.i,.i,.i,.i,.i,.i,.i,.i,.i,.i,.i,.i,.i,.i,.i,.i,.i,.i,.i,.i,.i,.i,.i,.i,.str,.i,.i,.bool,.i]) (.sl a)):∃N,W4 ke k_ N a left=k_ (oW a left):=by
 obtain⟨hl,_⟩:=oJ qs
 refine⟨a.length+1, ?_⟩
 unfold W4 Pj oW Tv
 refine Ka rfl ?_
 refine (TW a (fun n i l=>xf ke k_ (a.length+1) a n l i) (fun _ r c l=>bif decide ((fun r l=>sA (nr.nd r 0) l) r l<0) then k_ (-1) else c ((fun r l=>sA (nr.nd r 0) l) r l)) k_ ?_ ?_ _).trans (nsS (fun r l=>sA (nr.nd r 0) l) k_ a 0 _)
 ·intro n i l h
  try dsimp only
  rw[R4]
  simp only[xg,pw h,nY h,oO h hl,Int.toNat_natCast,ng,nn,cond_true]
 ·intro n l
  try dsimp only
  rw[R4]
  simp only[xg,nX,cond_false]
def NB (k_:Int→α) (a:Rows) (oP:Int→Int→α) (uK i:Int):α:=
 let z0:Int:=qN (nj.nd (nth a (Int.toNat i)) 0) uK
 bif decide (i<len a) then
  bif Ei true (idx i a) then
   bif decide (z0<0) then k_ (-1)
   else oP z0 (nS (i+1))
  else ke
 else k_ uK
def NA (k_:Int→α) (N:Nat) (a:Rows) (m_:Nat):Int→Int→α:=
 Nat.rec (motive:=fun _=>Int→Int→α) (fun _ _=>ke) (fun _ oP=>NB ke k_ a oP) m_
theorem W0 (k_:Int→α) (N:Nat) (a:Rows) (m_:Nat):NA ke k_ N a (m_+1)=NB ke k_ a (NA ke k_ N a m_):=rfl
def Vk {α:Type} (ke:α) (k_:Int→α) (l0:Int→Int→α) (a:Rows) (left:Int):α:=
 bif decide (nS (left - (len a))<0) then k_ (-1)
 else l0 (nS (left - (len a))) 0
def ndA (k_:Int→α) (N:Nat) (a:Rows) (left:Int):α:=Vk ke k_ (NA ke k_ N a N) a left
def pW (a:Rows) (left:Int):Int:=Tv (fun r l=>qN (nj.nd r 0) l) a left
theorem nqd (k_:Int→α) (a:Rows) (left:Int) (qs:G9 (.sl [.i,.i,.i,.sl [.i]]) (.sl a)):∃N,ndA ke k_ N a left=k_ (pW a left):=by
 obtain⟨hl,_⟩:=oJ qs
 refine⟨a.length+1, ?_⟩
 unfold ndA Vk pW Tv
 refine Ka rfl ?_
 refine (TW a (fun n i l=>NA ke k_ (a.length+1) a n l i) (fun _ r c l=>bif decide ((fun r l=>qN (nj.nd r 0) l) r l<0) then k_ (-1) else c ((fun r l=>qN (nj.nd r 0) l) r l)) k_ ?_ ?_ _).trans (nsS (fun r l=>qN (nj.nd r 0) l) k_ a 0 _)
 ·intro n i l h
  try dsimp only
  rw[W0]
  simp only[NB,pw h,nY h,oO h hl,Int.toNat_natCast,ng,nn,cond_true]
 ·intro n l
  try dsimp only
  rw[W0]
  simp only[NB,nX,cond_false]
def Pk {α:Type} (k_:Int→α) (a:nm) (left:Int):α:=
 let z0:Int:=sM a.Table (oI a.oM left)
 let z1:Int:=v9 a.oa z0
 bif decide (oI a.oM left<0) then k_ (-1)
 else bif decide (z0<0) then k_ (-1)
 else bif decide (z1<0) then k_ (-1)
 else k_ z1
def qM (a:nm) (left:Int):Int:=Pk id a left
theorem nju {α:Type} (k_:Int→α) (a:nm) (left:Int):Pk k_ a left=k_ (qM a left):=by
 exact Ka rfl (Ka rfl (Ka rfl rfl))
def Nb {α:Type} (k_:Int→α) (a:nt) (left:Int):α:=
 let z0:Int:=oI a.Maps (oF a.n_ left)
 let z1:Int:=oL a.Tx z0
 let z2:Int:=oW a.Rx z1
 let z3:Int:=pW a.nR z2
 let z4:Int:=oI a.nN z3
 let z5:Int:=oI a.nT z4
 let z6:Int:=qR a.Filter z5
 let z7:Int:=qM a.nk z6
 let z8:Int:=rk a.oE z7
 let z9:Int:=rl a.tU z8
 let TR:Int:=oI a.oG z9
 let z11:Int:=oI a.oU TR
 bif decide (oF a.n_ left<0) then k_ (-1)
 else bif decide (z0<0) then k_ (-1)
 else bif decide (z1<0) then k_ (-1)
 else bif decide (z2<0) then k_ (-1)
 else bif decide (z3<0) then k_ (-1)
 else bif decide (z4<0) then k_ (-1)
 else bif decide (z5<0) then k_ (-1)
 else bif decide (z6<0) then k_ (-1)
 else bif decide (z7<0) then k_ (-1)
 else bif decide (z8<0) then k_ (-1)
 else bif decide (z9<0) then k_ (-1)
 else bif decide (TR<0) then k_ (-1)
 else bif decide (z11<0) then k_ (-1)
 else k_ z11
def tZ (a:nt) (left:Int):Int:=Nb id a left
theorem nsc {α:Type} (k_:Int→α) (a:nt) (left:Int):Nb k_ a left=k_ (tZ a left):=by
 exact Ka rfl (Ka rfl (Ka rfl (Ka rfl (Ka rfl (Ka rfl (Ka rfl (Ka rfl (Ka rfl (Ka rfl (Ka rfl (Ka rfl (Ka rfl rfl))))))))))))
def nf2 {α:Type} (k_:Bool→α) (a b:nO):α:=
 bif a.Kind != b.Kind then k_ false
 else bif a.pZ != b.pZ then k_ false
 else bif a.qh != b.qh then k_ false
 else bif a.ox != b.ox then k_ false
 else bif a.ov != b.ov then k_ false
 else k_ true
theorem nr1 {α:Type} (k_:Bool→α) (a b:nO) (aJ:same a b=true):nf2 k_ a b=k_ (pF a b):=by
 obtain rfl:=rA aJ
 simp only[nf2,pV,pF,bne_self_eq_false,beq_self_eq_true,Bool.not_true,cond_false,cond_true,ng,nn]
def Yu {α:Type} (k_:Bool→α) (a b:pb):α:=
 bif a.nuB != b.nuB then k_ false
 else bif a.nta != b.nta then k_ false
 else bif a.no6 != b.no6 then k_ false
 else bif !(a.no9==b.no9) then k_ false
 else k_ true
theorem nkz {α:Type} (k_:Bool→α) (a b:pb) (aJ:same a b=true):Yu k_ a b=k_ (pF a b):=by
 obtain rfl:=rA aJ
 simp only[Yu,pV,pF,bne_self_eq_false,beq_self_eq_true,Bool.not_true,cond_false,cond_true,ng,nn]
def ngc {α:Type} (k_:Bool→α) (a b:pN):α:=
 bif a.Priority != b.Priority then k_ false
 else bif a.Kind != b.Kind then k_ false
 else bif a.pZ != b.pZ then k_ false
 else bif a.noZ != b.noZ then k_ false
 else bif a.X4 != b.X4 then k_ false
 else bif a.ncz != b.ncz then k_ false
 else bif a.PJ != b.PJ then k_ false
 else bif a.Action != b.Action then k_ false
 else bif a.Queue != b.Queue then k_ false
 else k_ true
theorem nr7 {α:Type} (k_:Bool→α) (a b:pN) (aJ:same a b=true):ngc k_ a b=k_ (pF a b):=by
 obtain rfl:=rA aJ
 simp only[ngc,pV,pF,bne_self_eq_false,beq_self_eq_true,Bool.not_true,cond_false,cond_true,ng,nn]
theorem np1 (k_:Bool→α) (a b:Rows) (qs:G9 (.sl [.i,.i,.i,.i,.i,.i,.i,.i,.i]) (.sl a)) (aJ:same a b=true):∃N,ncr (fun r=>pN.nd r 0) ke k_ N a b=k_ (pF a b):=by
 exact nt4 (fun r=>pN.nd r 0) ke k_ a b (oJ qs).1 aJ
def ngg (k_:Bool→α) (a b:qZ):α:=
 bif a.State != b.State then k_ false
 else bif Ei true (same a.xN b.xN) then
   bif !(pF a.xN b.xN) then k_ false
   else bif a.Queue != b.Queue then k_ false
   else k_ true
  else ke
theorem nsa (k_:Bool→α) (a b:qZ) (aJ:same a b=true):ngg ke k_ a b=k_ (pF a b):=by
 obtain rfl:=rA aJ
 simp only[ngg,pV,pF,bne_self_eq_false,beq_self_eq_true,Bool.not_true,cond_false,cond_true,ng,nn]
theorem np7 (k_:Bool→α) (a b:Rows) (qs:G9 (.sl [.i,.i,.i,.i,.i,.i,.i]) (.sl a)) (aJ:same a b=true):∃N,ncr (fun r=>qZ.nd r 0) ke k_ N a b=k_ (pF a b):=by
 exact nt4 (fun r=>qZ.nd r 0) ke k_ a b (oJ qs).1 aJ
def UO (k_:Bool→α) (a b:ni):α:=
 bif Ei true (same a.nH b.nH) then
  bif !(pF a.nH b.nH) then k_ false
  else k_ true
 else ke
theorem ng4 (k_:Bool→α) (a b:ni) (aJ:same a b=true):UO ke k_ a b=k_ (pF a b):=by
 obtain rfl:=rA aJ
 simp only[UO,pV,pF,bne_self_eq_false,beq_self_eq_true,Bool.not_true,cond_false,cond_true,ng,nn]
def nbj (k_:Bool→α) (a b:nI):α:=
 bif !(a.Key==b.Key) then k_ false
 else bif Ei true (same a.Table b.Table) then
   bif !(pF a.Table b.Table) then k_ false
   else k_ true
  else ke
theorem nnr (k_:Bool→α) (a b:nI) (aJ:same a b=true):nbj ke k_ a b=k_ (pF a b):=by
 obtain rfl:=rA aJ
 simp only[nbj,pV,pF,bne_self_eq_false,beq_self_eq_true,Bool.not_true,cond_false,cond_true,ng,nn]
def WS (k_:Bool→α) (a b:nm):α:=
 bif Ei true (same a.oM b.oM) then
  bif !(pF a.oM b.oM) then k_ false
  else bif Ei true (same a.Table b.Table) then
    bif !(pF a.Table b.Table) then k_ false
    else bif Ei true (same a.oa b.oa) then
      bif !(pF a.oa b.oa) then k_ false
      else k_ true
     else ke
   else ke
 else ke
theorem niS (k_:Bool→α) (a b:nm) (aJ:same a b=true):WS ke k_ a b=k_ (pF a b):=by
 obtain rfl:=rA aJ
 simp only[WS,pV,pF,bne_self_eq_false,beq_self_eq_true,Bool.not_true,cond_false,cond_true,ng,nn]
def nbl (k_:Bool→α) (a b:nJ):α:=
 bif Ei true (same a.xN b.xN) then
  bif !(pF a.xN b.xN) then k_ false
  else bif a.Next != b.Next then k_ false
  else bif !(a.Data==b.Data) then k_ false
  else bif !(a.X3==b.X3) then k_ false
  else k_ true
 else ke
theorem nnt (k_:Bool→α) (a b:nJ) (aJ:same a b=true):nbl ke k_ a b=k_ (pF a b):=by
 obtain rfl:=rA aJ
 simp only[nbl,pV,pF,bne_self_eq_false,beq_self_eq_true,Bool.not_true,cond_false,cond_true,ng,nn]
theorem nkF (k_:Bool→α) (a b:Rows) (qs:G9 (.sl [.i,.i,.i,.i,.i,.i,.str,.bool]) (.sl a)) (aJ:same a b=true):∃N,ncr (fun r=>nJ.nd r 0) ke k_ N a b=k_ (pF a b):=by
 exact nt4 (fun r=>nJ.nd r 0) ke k_ a b (oJ qs).1 aJ
def nf9 (k_:Bool→α) (a b:nj):α:=
 bif a.oA != b.oA then k_ false
 else bif a.nG != b.nG then k_ false
 else bif a.Count != b.Count then k_ false
 else bif Ei true (same a.oe b.oe) then
   bif !(pF a.oe b.oe) then k_ false
   else k_ true
  else ke
theorem nr5 (k_:Bool→α) (a b:nj) (aJ:same a b=true):nf9 ke k_ a b=k_ (pF a b):=by
 obtain rfl:=rA aJ
 simp only[nf9,pV,pF,bne_self_eq_false,beq_self_eq_true,Bool.not_true,cond_false,cond_true,ng,nn]
def nga {α:Type} (k_:Bool→α) (a b:nE):α:=
 bif a.oA != b.oA then k_ false
 else bif a.nG != b.nG then k_ false
 else bif a.Head != b.Head then k_ false
 else bif a.qQ != b.qQ then k_ false
 else k_ true
theorem nr6 {α:Type} (k_:Bool→α) (a b:nE) (aJ:same a b=true):nga k_ a b=k_ (pF a b):=by
 obtain rfl:=rA aJ
 simp only[nga,pV,pF,bne_self_eq_false,beq_self_eq_true,Bool.not_true,cond_false,cond_true,ng,nn]
def nge (k_:Bool→α) (a b:py):α:=
 bif a.qf != b.qf then k_ false
 else bif a.nH != b.nH then k_ false
 else bif Ei true (same a.OA b.OA) then
   bif !(pF a.OA b.OA) then k_ false
   else k_ true
  else ke
theorem nr9 (k_:Bool→α) (a b:py) (aJ:same a b=true):nge ke k_ a b=k_ (pF a b):=by
 obtain rfl:=rA aJ
 simp only[nge,pV,pF,bne_self_eq_false,beq_self_eq_true,Bool.not_true,cond_false,cond_true,ng,nn]
theorem np4 (k_:Bool→α) (a b:Rows) (qs:G9 (.sl [.i,.i,.sl [.i]]) (.sl a)) (aJ:same a b=true):∃N,ncr (fun r=>py.nd r 0) ke k_ N a b=k_ (pF a b):=by
 exact nt4 (fun r=>py.nd r 0) ke k_ a b (oJ qs).1 aJ
def YH (k_:Bool→α) (a b:nv):α:=
 bif Ei true (same a.Ring b.Ring) then
  bif !(pF a.Ring b.Ring) then k_ false
  else bif Ei true (same a.n9 b.n9) then
    bif !(pF a.n9 b.n9) then k_ false
    else bif Ei true (same a.nD b.nD) then
      bif !(pF a.nD b.nD) then k_ false
      else bif a.Next != b.Next then k_ false
      else k_ true
     else ke
   else ke
 else ke
theorem nkJ (k_:Bool→α) (a b:nv) (aJ:same a b=true):YH ke k_ a b=k_ (pF a b):=by
 obtain rfl:=rA aJ
 simp only[YH,pV,pF,bne_self_eq_false,beq_self_eq_true,Bool.not_true,cond_false,cond_true,ng,nn]
theorem niM (k_:Bool→α) (a b:Rows) (qs:G9 (.sl [.i,.i,.i,.bool]) (.sl a)) (aJ:same a b=true):∃N,ncr (fun r=>pb.nd r 0) ke k_ N a b=k_ (pF a b):=by
 exact nt4 (fun r=>pb.nd r 0) ke k_ a b (oJ qs).1 aJ
def z_ {α:Type} (k_:Bool→α) (a b:nf):α:=
 bif a.oA != b.oA then k_ false
 else bif a.nG != b.nG then k_ false
 else bif a.Count != b.Count then k_ false
 else k_ true
theorem XL {α:Type} (k_:Bool→α) (a b:nf) (aJ:same a b=true):z_ k_ a b=k_ (pF a b):=by
 obtain rfl:=rA aJ
 simp only[z_,pV,pF,bne_self_eq_false,beq_self_eq_true,Bool.not_true,cond_false,cond_true,ng,nn]
def Yw (k_:Bool→α) (a b:nr):α:=
 bif Ei true (same a.Ring b.Ring) then
  bif !(pF a.Ring b.Ring) then k_ false
  else bif Ei true (same a.Device b.Device) then
    bif !(pF a.Device b.Device) then k_ false
    else bif Ei true (same a.Driver b.Driver) then
      bif !(pF a.Driver b.Driver) then k_ false
      else bif Ei true (same a.pO b.pO) then
        bif !(pF a.pO b.pO) then k_ false
        else bif !(a.TA==b.TA) then k_ false
        else bif a.Tz != b.Tz then k_ false
        else k_ true
       else ke
     else ke
   else ke
 else ke
theorem nkB (k_:Bool→α) (a b:nr) (aJ:same a b=true):Yw ke k_ a b=k_ (pF a b):=by
 obtain rfl:=rA aJ
 simp only[Yw,pV,pF,bne_self_eq_false,beq_self_eq_true,Bool.not_true,cond_false,cond_true,ng,nn]
theorem niP (k_:Bool→α) (a b:Rows) (qs:G9 (.sl [.i,.i,.i,.i,.i,.i,.i,.i,.i,.i,.i,.i,.i,.i,.i,.i,.i,.i,.i,.i,.i,.i,.i,.i,.i,.str,.i,.i,.bool,.i]) (.sl a)) (aJ:same a b=true):∃N,ncr (fun r=>nr.nd r 0) ke k_ N a b=k_ (pF a b):=by
 exact nt4 (fun r=>nr.nd r 0) ke k_ a b (oJ qs).1 aJ
theorem npY (k_:Bool→α) (a b:Rows) (qs:G9 (.sl [.i,.i,.i,.sl [.i]]) (.sl a)) (aJ:same a b=true):∃N,ncr (fun r=>nj.nd r 0) ke k_ N a b=k_ (pF a b):=by
 exact nt4 (fun r=>nj.nd r 0) ke k_ a b (oJ qs).1 aJ
def Nz (k_:Bool→α) (a b:Rows) (oP:Int→α) (i:Int):α:=
 bif decide (i<len a) then
  bif Ei (Ei true (idx i a)) (idx i b) then
   bif !((rB (nth a (Int.toNat i)) 0)==(rB (nth b (Int.toNat i)) 0)) then k_ false
   else oP (nS (i+1))
  else ke
 else k_ true
def Ny (k_:Bool→α) (N:Nat) (a b:Rows) (m_:Nat):Int→α:=
 Nat.rec (motive:=fun _=>Int→α) (fun _=>ke) (fun _ oP=>Nz ke k_ a b oP) m_
theorem WH (k_:Bool→α) (N:Nat) (a b:Rows) (m_:Nat):Ny ke k_ N a b (m_+1)=Nz ke k_ a b (Ny ke k_ N a b m_):=rfl
def UM {α:Type} (ke:α) (k_:Bool→α) (l0:Int→α) (a b:Rows):α:=
 bif (len a) != (len b) then k_ false
 else l0 0
def nc8 (k_:Bool→α) (N:Nat) (a b:Rows):α:=UM ke k_ (Ny ke k_ N a b N) a b
theorem npV (k_:Bool→α) (a b:Rows) (qs:G9 (.sl [.bool]) (.sl a)) (aJ:same a b=true):∃N,nc8 ke k_ N a b=k_ (pF a b):=by
 obtain rfl:=rA aJ
 obtain⟨hl,_⟩:=oJ qs
 refine⟨a.length+1, ?_⟩
 unfold nc8 UM
 simp only[bne_self_eq_false,cond_false]
 refine (rb a (Ny ke k_ (a.length+1) a a) (fun _ _ c=>c) (k_ true) ?_ ?_).trans (no1 _ _ _)
 ·intro n i h
  rw[WH]
  simp only[Nz,pw h,nY h,oO h hl,Int.toNat_natCast,ng,nn,cond_true,cond_false,bne_self_eq_false,beq_self_eq_true,Bool.not_true,pV,pF]
 ·intro n
  rw[WH]
  simp only[Nz,nX,cond_false]
def nbd (k_:Bool→α) (a b:nF):α:=
 bif a.Wj != b.Wj then k_ false
 else bif !(a.oH==b.oH) then k_ false
 else bif Ei true (same a.pE b.pE) then
   bif !(pF a.pE b.pE) then k_ false
   else k_ true
  else ke
theorem nnh (k_:Bool→α) (a b:nF) (aJ:same a b=true):nbd ke k_ a b=k_ (pF a b):=by
 obtain rfl:=rA aJ
 simp only[nbd,pV,pF,bne_self_eq_false,beq_self_eq_true,Bool.not_true,cond_false,cond_true,ng,nn]
def WJ {α:Type} (k_:Bool→α) (a b:ot):α:=
 bif a.Frames != b.Frames then k_ false
 else bif a.Bad != b.Bad then k_ false
 else bif a.pX != b.pX then k_ false
 else bif a.qz != b.qz then k_ false
 else bif a.tz != b.tz then k_ false
 else k_ true
theorem niK {α:Type} (k_:Bool→α) (a b:ot) (aJ:same a b=true):WJ k_ a b=k_ (pF a b):=by
 obtain rfl:=rA aJ
 simp only[WJ,pV,pF,bne_self_eq_false,beq_self_eq_true,Bool.not_true,cond_false,cond_true,ng,nn]
def nf4 (k_:Bool→α) (a b:nt):α:=
 bif Ei true (same a.n_ b.n_) then
  bif !(pF a.n_ b.n_) then k_ false
  else bif Ei true (same a.Maps b.Maps) then
    bif !(pF a.Maps b.Maps) then k_ false
    else bif Ei true (same a.Tx b.Tx) then
      bif !(pF a.Tx b.Tx) then k_ false
      else bif Ei true (same a.Rx b.Rx) then
        bif !(pF a.Rx b.Rx) then k_ false
        else bif Ei true (same a.nR b.nR) then
          bif !(pF a.nR b.nR) then k_ false
          else bif Ei true (same a.nN b.nN) then
            bif !(pF a.nN b.nN) then k_ false
            else bif Ei true (same a.nT b.nT) then
              bif !(pF a.nT b.nT) then k_ false
              else bif Ei true (same a.Filter b.Filter) then
                bif !(pF a.Filter b.Filter) then k_ false
                else bif Ei true (same a.nk b.nk) then
                  bif !(pF a.nk b.nk) then k_ false
                  else bif Ei true (same a.oE b.oE) then
                    bif !(pF a.oE b.oE) then k_ false
                    else bif !(a.p9==b.p9) then k_ false
                    else bif Ei true (same a.tU b.tU) then
                      bif !(pF a.tU b.tU) then k_ false
                      else bif Ei true (same a.oG b.oG) then
                        bif !(pF a.oG b.oG) then k_ false
                        else bif Ei true (same a.oU b.oU) then
                          bif !(pF a.oU b.oU) then k_ false
                          else bif Ei true (same a.Counters b.Counters) then
                            bif !(pF a.Counters b.Counters) then k_ false
                            else k_ true
                           else ke
                         else ke
                       else ke
                     else ke
                   else ke
                 else ke
               else ke
             else ke
           else ke
         else ke
       else ke
     else ke
   else ke
 else ke
theorem nr2 (k_:Bool→α) (a b:nt) (aJ:same a b=true):nf4 ke k_ a b=k_ (pF a b):=by
 obtain rfl:=rA aJ
 simp only[nf4,pV,pF,bne_self_eq_false,beq_self_eq_true,Bool.not_true,cond_false,cond_true,ng,nn]
theorem Ze {a:nF} {left:Int} (wT:kc nF.ct a.enc) (h1:0≤left) (h2:left≤1048576) (h0:0≤qR a left):qR a left≤1048576∧uT a=true:=by
 simp only[qR,SC,id] at h0 ⊢
 by_cases c0:oI a.pE left<0
 ·simp only[c0,decide_true,cond_true] at h0;omega
 simp only[c0,decide_false,cond_false] at h0 ⊢
 have k0:=tK h1 h2 (oJ (nF.nrE wT)).1 (Int.not_lt.1 c0)
 exact⟨k0.1,by simp only[uT,NG,k0.2,ng,nn,cond_true]⟩
theorem nlj {a:nI} {left:Int} (wT:kc nI.ct a.enc) (h1:0≤left) (h2:left≤1048576) (h0:0≤v9 a left):v9 a left≤1048576∧uV a=true:=by
 simp only[v9,SF,id] at h0 ⊢
 by_cases c0:nS (left - (len a.Key))<0
 ·simp only[c0,decide_true,cond_true] at h0;omega
 simp only[c0,decide_false,cond_false] at h0 ⊢
 have k0:=nrx (yR (nI.nxw wT)) h1 h2 (Int.not_lt.1 c0)
 by_cases c1:oI a.Table (nS (left - (len a.Key)))<0
 ·simp only[c1,decide_true,cond_true] at h0;omega
 simp only[c1,decide_false,cond_false] at h0 ⊢
 have k1:=tK (Int.not_lt.1 c0) k0.1 (oJ (nI.Wa wT)).1 (Int.not_lt.1 c1)
 exact⟨k1.1,by simp only[uV,NM,k0.2,k1.2,ng,nn,cond_true]⟩
theorem njt {a:nA} {left:Int} (wT:kc nA.ct a.enc) (h1:0≤left) (h2:left≤1048576) (h0:0≤t_ a left):t_ a left≤1048576∧True:=by
 simp only[t_,QB,id] at h0 ⊢
 by_cases c0:nS (left - (len a.Body))<0
 ·simp only[c0,decide_true,cond_true] at h0;omega
 simp only[c0,decide_false,cond_false] at h0 ⊢
 have k0:=nrx (yR (nA.ntU wT)) h1 h2 (Int.not_lt.1 c0)
 exact⟨k0.1,trivial⟩
theorem nle {a:nC} {left:Int} (wT:kc nC.ct a.enc) (h1:0≤left) (h2:left≤1048576) (h0:0≤uN a left):uN a left≤1048576∧True:=by
 simp only[uN,SE,id] at h0 ⊢
 by_cases c0:t_ a.qO left<0
 ·simp only[c0,decide_true,cond_true] at h0;omega
 simp only[c0,decide_false,cond_false] at h0 ⊢
 have k0:=njt (nC.nvf wT) h1 h2 (Int.not_lt.1 c0)
 exact⟨k0.1,trivial⟩
theorem nnY {a:pr} {left:Int} (wT:kc pr.ct a.enc) (h1:0≤left) (h2:left≤1048576) (h0:0≤vU a left):vU a left≤1048576∧True:=by
 simp only[vU,Vq,id] at h0 ⊢
 by_cases c0:uN a.nV left<0
 ·simp only[c0,decide_true,cond_true] at h0;omega
 simp only[c0,decide_false,cond_false] at h0 ⊢
 have k0:=nle (pr.nvR wT) h1 h2 (Int.not_lt.1 c0)
 exact⟨k0.1,trivial⟩
theorem Zl {a:nJ} {left:Int} (wT:kc nJ.ct a.enc) (h1:0≤left) (h2:left≤1048576) (h0:0≤rZ a left):rZ a left≤1048576∧True:=by
 simp only[rZ,NF,id] at h0 ⊢
 by_cases c0:nS (left - (len a.Data))<0
 ·simp only[c0,decide_true,cond_true] at h0;omega
 simp only[c0,decide_false,cond_false] at h0 ⊢
 have k0:=nrx (yR (nJ.nvz wT)) h1 h2 (Int.not_lt.1 c0)
 exact⟨k0.1,trivial⟩
theorem Pg {a:nj} {left:Int} (wT:kc nj.ct a.enc) (h1:0≤left) (h2:left≤1048576) (h0:0≤qN a left):qN a left≤1048576∧sY a=true:=by
 simp only[qN,Nd,id] at h0 ⊢
 by_cases c0:oI a.oe left<0
 ·simp only[c0,decide_true,cond_true] at h0;omega
 simp only[c0,decide_false,cond_false] at h0 ⊢
 have k0:=tK h1 h2 (oJ (nj.nj_ wT)).1 (Int.not_lt.1 c0)
 exact⟨k0.1,by simp only[sY,RI,k0.2,ng,nn,cond_true]⟩
theorem nfv {a:ni} {left:Int} (wT:kc ni.ct a.enc) (h1:0≤left) (h2:left≤1048576) (h0:0≤sM a left):sM a left≤1048576∧ta a=true:=by
 simp only[sM,Of,id] at h0 ⊢
 by_cases c0:oI a.nH left<0
 ·simp only[c0,decide_true,cond_true] at h0;omega
 simp only[c0,decide_false,cond_false] at h0 ⊢
 have k0:=tK h1 h2 (oJ (ni.V_ wT)).1 (Int.not_lt.1 c0)
 exact⟨k0.1,by simp only[ta,xh,k0.2,ng,nn,cond_true]⟩
theorem W7 {a:Rows} {left:Int} (wT:G9 (.sl [.i,.i,.i,.i,.i,.i,.str,.bool]) (.sl a)) (h1:0≤left) (h2:left≤1048576) (h0:0≤rk a left):rk a left≤1048576∧sm a=true:=by
 obtain⟨hl,hw⟩:=oJ wT
 have h3:=V7 (P:=fun _=>True) (fun r hr l hl0 GL h=>⟨(Zl (by rw[nJ.eta (hw r hr)];exact hw r hr) hl0 GL h).1,trivial⟩) h1 h2 hl h0
 exact⟨h3.1,h3.2.1⟩
theorem nqk {a:py} {left:Int} (wT:kc py.ct a.enc) (h1:0≤left) (h2:left≤1048576) (h0:0≤rV a left):rV a left≤1048576∧ua a=true:=by
 simp only[rV,RG,id] at h0 ⊢
 by_cases c0:oI a.OA left<0
 ·simp only[c0,decide_true,cond_true] at h0;omega
 simp only[c0,decide_false,cond_false] at h0 ⊢
 have k0:=tK h1 h2 (oJ (py.nrB wT)).1 (Int.not_lt.1 c0)
 exact⟨k0.1,by simp only[ua,RJ,k0.2,ng,nn,cond_true]⟩
theorem nbF {a:Rows} {left:Int} (wT:G9 (.sl [.i,.i,.sl [.i]]) (.sl a)) (h1:0≤left) (h2:left≤1048576) (h0:0≤tO a left):tO a left≤1048576∧tl a=true:=by
 obtain⟨hl,hw⟩:=oJ wT
 have h3:=V7 (P:=fun r=>ua (py.nd r 0)=true) (fun r hr l hl0 GL h=>nqk (by rw[py.eta (hw r hr)];exact hw r hr) hl0 GL h) h1 h2 hl h0
 exact⟨h3.1,by simp only[tl,Bool.and_eq_true,List.all_eq_true];exact h3.2⟩
theorem W8 {a:Rows} {left:Int} (wT:G9 (.sl [.str]) (.sl a)) (h1:0≤left) (h2:left≤1048576) (h0:0≤rl a left):rl a left≤1048576∧sm a=true:=by
 obtain⟨hl,hw⟩:=oJ wT
 have h3:=V7 (P:=fun _=>True) (fun r hr l hl0 GL h=>⟨(nrx (yR (show G9 .str (.str (rS r 0)) by have:=hw r hr;rw[←ntH this] at this;exact (nvh this).1)) hl0 GL h).1,trivial⟩) h1 h2 hl h0
 exact⟨h3.1,h3.2.1⟩
theorem Qz {a:nc} {left:Int} (wT:kc nc.ct a.enc) (h1:0≤left) (h2:left≤1048576) (h0:0≤oF a left):oF a left≤1048576∧uU a=true:=by
 simp only[oF,SD,id] at h0 ⊢
 by_cases c0:rl a.nL left<0
 ·simp only[c0,decide_true,cond_true] at h0;omega
 simp only[c0,decide_false,cond_false] at h0 ⊢
 have k0:=W8 (nc.wR wT) h1 h2 (Int.not_lt.1 c0)
 exact⟨k0.1,by simp only[uU,NH,k0.2,ng,nn,cond_true]⟩
theorem W9 {a:nv} {left:Int} (wT:kc nv.ct a.enc) (h1:0≤left) (h2:left≤1048576) (h0:0≤oL a left):oL a left≤1048576∧uh a=true:=by
 simp only[oL,zn,id] at h0 ⊢
 by_cases c0:qN a.n9 left<0
 ·simp only[c0,decide_true,cond_true] at h0;omega
 simp only[c0,decide_false,cond_false] at h0 ⊢
 have k0:=Pg (nv.ntY wT) h1 h2 (Int.not_lt.1 c0)
 by_cases c1:tO a.nD (qN a.n9 left)<0
 ·simp only[c1,decide_true,cond_true] at h0;omega
 simp only[c1,decide_false,cond_false] at h0 ⊢
 have k1:=nbF (nv.Rp wT) (Int.not_lt.1 c0) k0.1 (Int.not_lt.1 c1)
 exact⟨k1.1,by simp only[uh,zp,k0.2,k1.2,ng,nn,cond_true]⟩
theorem njs {a:nr} {left:Int} (wT:kc nr.ct a.enc) (h1:0≤left) (h2:left≤1048576) (h0:0≤sA a left):sA a left≤1048576∧True:=by
 simp only[sA,QA,id] at h0 ⊢
 by_cases c0:vU a.pO left<0
 ·simp only[c0,decide_true,cond_true] at h0;omega
 simp only[c0,decide_false,cond_false] at h0 ⊢
 have k0:=nnY (nr.nw5 wT) h1 h2 (Int.not_lt.1 c0)
 exact⟨k0.1,trivial⟩
theorem Vl {a:Rows} {left:Int} (wT:G9 (.sl [.i,.i,.i,.i,.i,.i,.i,.i,.i,.i,.i,.i,.i,.i,.i,.i,.i,.i,.i,.i,.i,.i,.i,.i,.i,.str,.i,.i,.bool,.i]) (.sl a)) (h1:0≤left) (h2:left≤1048576) (h0:0≤oW a left):oW a left≤1048576∧sm a=true:=by
 obtain⟨hl,hw⟩:=oJ wT
 have h3:=V7 (P:=fun _=>True) (fun r hr l hl0 GL h=>⟨(njs (by rw[nr.eta (hw r hr)];exact hw r hr) hl0 GL h).1,trivial⟩) h1 h2 hl h0
 exact⟨h3.1,h3.2.1⟩
theorem nbE {a:Rows} {left:Int} (wT:G9 (.sl [.i,.i,.i,.sl [.i]]) (.sl a)) (h1:0≤left) (h2:left≤1048576) (h0:0≤pW a left):pW a left≤1048576∧uq a=true:=by
 obtain⟨hl,hw⟩:=oJ wT
 have h3:=V7 (P:=fun r=>sY (nj.nd r 0)=true) (fun r hr l hl0 GL h=>Pg (by rw[nj.eta (hw r hr)];exact hw r hr) hl0 GL h) h1 h2 hl h0
 exact⟨h3.1,by simp only[uq,Bool.and_eq_true,List.all_eq_true];exact h3.2⟩
theorem Vp {a:nm} {left:Int} (wT:kc nm.ct a.enc) (h1:0≤left) (h2:left≤1048576) (h0:0≤qM a left):qM a left≤1048576∧tG a=true:=by
 simp only[qM,Pk,id] at h0 ⊢
 by_cases c0:oI a.oM left<0
 ·simp only[c0,decide_true,cond_true] at h0;omega
 simp only[c0,decide_false,cond_false] at h0 ⊢
 have k0:=tK h1 h2 (oJ (nm.nrD wT)).1 (Int.not_lt.1 c0)
 by_cases c1:sM a.Table (oI a.oM left)<0
 ·simp only[c1,decide_true,cond_true] at h0;omega
 simp only[c1,decide_false,cond_false] at h0 ⊢
 have k1:=nfv (nm.Wa wT) (Int.not_lt.1 c0) k0.1 (Int.not_lt.1 c1)
 by_cases c2:v9 a.oa (sM a.Table (oI a.oM left))<0
 ·simp only[c2,decide_true,cond_true] at h0;omega
 simp only[c2,decide_false,cond_false] at h0 ⊢
 have k2:=nlj (nm.nvS wT) (Int.not_lt.1 c1) k1.1 (Int.not_lt.1 c2)
 exact⟨k2.1,by simp only[tG,yl,k0.2,k1.2,k2.2,ng,nn,cond_true]⟩
theorem nqc {a:nt} {left:Int} (wT:kc nt.ct a.enc) (h1:0≤left) (h2:left≤1048576) (h0:0≤tZ a left):tZ a left≤1048576∧sX a=true:=by
 simp only[tZ,Nb,id] at h0 ⊢
 by_cases c0:oF a.n_ left<0
 ·simp only[c0,decide_true,cond_true] at h0;omega
 simp only[c0,decide_false,cond_false] at h0 ⊢
 have k0:=Qz (nt.nl9 wT) h1 h2 (Int.not_lt.1 c0)
 by_cases c1:oI a.Maps (oF a.n_ left)<0
 ·simp only[c1,decide_true,cond_true] at h0;omega
 simp only[c1,decide_false,cond_false] at h0 ⊢
 have k1:=tK (Int.not_lt.1 c0) k0.1 (oJ (nt.ntW wT)).1 (Int.not_lt.1 c1)
 by_cases c2:oL a.Tx (oI a.Maps (oF a.n_ left))<0
 ·simp only[c2,decide_true,cond_true] at h0;omega
 simp only[c2,decide_false,cond_false] at h0 ⊢
 have k2:=W9 (nt.nwP wT) (Int.not_lt.1 c1) k1.1 (Int.not_lt.1 c2)
 by_cases c3:oW a.Rx (oL a.Tx (oI a.Maps (oF a.n_ left)))<0
 ·simp only[c3,decide_true,cond_true] at h0;omega
 simp only[c3,decide_false,cond_false] at h0 ⊢
 have k3:=Vl (nt.nuy wT) (Int.not_lt.1 c2) k2.1 (Int.not_lt.1 c3)
 by_cases c4:pW a.nR (oW a.Rx (oL a.Tx (oI a.Maps (oF a.n_ left))))<0
 ·simp only[c4,decide_true,cond_true] at h0;omega
 simp only[c4,decide_false,cond_false] at h0 ⊢
 have k4:=nbE (nt.Sg wT) (Int.not_lt.1 c3) k3.1 (Int.not_lt.1 c4)
 by_cases c5:oI a.nN (pW a.nR (oW a.Rx (oL a.Tx (oI a.Maps (oF a.n_ left)))))<0
 ·simp only[c5,decide_true,cond_true] at h0;omega
 simp only[c5,decide_false,cond_false] at h0 ⊢
 have k5:=tK (Int.not_lt.1 c4) k4.1 (oJ (nt.nag wT)).1 (Int.not_lt.1 c5)
 by_cases c6:oI a.nT (oI a.nN (pW a.nR (oW a.Rx (oL a.Tx (oI a.Maps (oF a.n_ left))))))<0
 ·simp only[c6,decide_true,cond_true] at h0;omega
 simp only[c6,decide_false,cond_false] at h0 ⊢
 have k6:=tK (Int.not_lt.1 c5) k5.1 (oJ (nt.nae wT)).1 (Int.not_lt.1 c6)
 by_cases c7:qR a.Filter (oI a.nT (oI a.nN (pW a.nR (oW a.Rx (oL a.Tx (oI a.Maps (oF a.n_ left)))))))<0
 ·simp only[c7,decide_true,cond_true] at h0;omega
 simp only[c7,decide_false,cond_false] at h0 ⊢
 have k7:=Ze (nt.ns4 wT) (Int.not_lt.1 c6) k6.1 (Int.not_lt.1 c7)
 by_cases c8:qM a.nk (qR a.Filter (oI a.nT (oI a.nN (pW a.nR (oW a.Rx (oL a.Tx (oI a.Maps (oF a.n_ left))))))))<0
 ·simp only[c8,decide_true,cond_true] at h0;omega
 simp only[c8,decide_false,cond_false] at h0 ⊢
 have k8:=Vp (nt.nmx wT) (Int.not_lt.1 c7) k7.1 (Int.not_lt.1 c8)
 by_cases c9:rk a.oE (qM a.nk (qR a.Filter (oI a.nT (oI a.nN (pW a.nR (oW a.Rx (oL a.Tx (oI a.Maps (oF a.n_ left)))))))))<0
 ·simp only[c9,decide_true,cond_true] at h0;omega
 simp only[c9,decide_false,cond_false] at h0 ⊢
 have k9:=W7 (nt.naf wT) (Int.not_lt.1 c8) k8.1 (Int.not_lt.1 c9)
 by_cases c10:rl a.tU (rk a.oE (qM a.nk (qR a.Filter (oI a.nT (oI a.nN (pW a.nR (oW a.Rx (oL a.Tx (oI a.Maps (oF a.n_ left))))))))))<0
 ·simp only[c10,decide_true,cond_true] at h0;omega
 simp only[c10,decide_false,cond_false] at h0 ⊢
 have k10:=W8 (nt.nw8 wT) (Int.not_lt.1 c9) k9.1 (Int.not_lt.1 c10)
 by_cases c11:oI a.oG (rl a.tU (rk a.oE (qM a.nk (qR a.Filter (oI a.nT (oI a.nN (pW a.nR (oW a.Rx (oL a.Tx (oI a.Maps (oF a.n_ left)))))))))))<0
 ·simp only[c11,decide_true,cond_true] at h0;omega
 simp only[c11,decide_false,cond_false] at h0 ⊢
 have k11:=tK (Int.not_lt.1 c10) k10.1 (oJ (nt.ntV wT)).1 (Int.not_lt.1 c11)
 by_cases c12:oI a.oU (oI a.oG (rl a.tU (rk a.oE (qM a.nk (qR a.Filter (oI a.nT (oI a.nN (pW a.nR (oW a.Rx (oL a.Tx (oI a.Maps (oF a.n_ left))))))))))))<0
 ·simp only[c12,decide_true,cond_true] at h0;omega
 simp only[c12,decide_false,cond_false] at h0 ⊢
 have k12:=tK (Int.not_lt.1 c11) k11.1 (oJ (nt.nux wT)).1 (Int.not_lt.1 c12)
 exact⟨k12.1,by simp only[sX,RH,k0.2,k1.2,k2.2,k3.2,k4.2,k5.2,k6.2,k7.2,k8.2,k9.2,k10.2,k11.2,k12.2,ng,nn,cond_true]⟩
def zk (k_:Int→Rows→α) (oP:Int→Int→Rows→α) (rj i:Int) (zK:Rows):α:=
 bif decide (i<len zK) then
  bif Ei (Ei true (idx i zK)) (inl (Int.toNat i) zK) then
   oP (nS (rj+1)) (nS (i+1)) (List.set zK (Int.toNat i) (bT (nth zK (Int.toNat i)) 0 [.int rj]))
  else ke
 else k_ rj zK
def zj (k_:Int→Rows→α) (N m_:Nat):Int→Int→Rows→α:=
 Nat.rec (motive:=fun _=>Int→Int→Rows→α) (fun _ _ _=>ke) (fun _ oP=>zk ke k_ oP) m_
theorem U6 (k_:Int→Rows→α) (N m_:Nat):zj ke k_ N (m_+1)=zk ke k_ (zj ke k_ N m_):=rfl
def SA {α:Type} (ke:α) (k_:Int→Rows→α) (l0:Int→Int→Rows→α) (a:Rows) (k:Int):α:=
 l0 k 0 a
def nbw (k_:Int→Rows→α) (N:Nat) (a:Rows) (k:Int):α:=SA ke k_ (zj ke k_ N N) a k
def rO (k:Int):List DC:=[.int k]
def se (a:Rows) (k:Int):Int×Rows:=(k+1*a.length,vp rO 1 a.length k)
theorem nnG (k_:Int→Rows→α) (a:Rows) (k:Int) (qs:G9 (.sl [.i]) (.sl a)) (aJ:Oz 1 a k=true):∃N,nbw ke k_ N a k=k_ (se a k).1 (se a k).2:=by
 obtain⟨hl,hw⟩:=oJ qs
 obtain⟨h1,h2,h3⟩:=Vz aJ
 refine⟨a.length+1, ?_⟩
 unfold nbw SA se
 refine neU a k 1 rO (zj ke k_ (a.length+1)) k_ ?_ ?_
 ·intro n i b h hb hn
  rw[U6]
  have w1:nS (k+1*(i:Int)+1)=k+1*(i:Int)+1:=nP (by omega) (by omega)
  have hs:bT (nth a i) 0 (rO (k+1*(i:Int)))=rO (k+1*(i:Int)):=qL (by rw[NX (hw (nth a i) (qi h))];rfl)
  simp only[zk,pw (show i<b.length by omega),nY (show i<b.length by omega),qC (show i<b.length by omega),oO h hl,Int.toNat_natCast,ng,nn,cond_true,hn,w1]
  rw[←hs];rfl
 ·intro n b hb
  rw[U6]
  simp only[zk,←hb,nX,cond_false]
def zi (k_:Int→α) (a:Rows) (oP:Int→Int→α) (rj i:Int):α:=
 bif decide (i<len a) then
  bif Ei true (idx i a) then
   bif (rI (nth a (Int.toNat i)) 0) != rj then k_ (-1)
   else oP (nS (rj+1)) (nS (i+1))
  else ke
 else k_ rj
def zh (k_:Int→α) (N:Nat) (a:Rows) (m_:Nat):Int→Int→α:=
 Nat.rec (motive:=fun _=>Int→Int→α) (fun _ _=>ke) (fun _ oP=>zi ke k_ a oP) m_
theorem UT (k_:Int→α) (N:Nat) (a:Rows) (m_:Nat):zh ke k_ N a (m_+1)=zi ke k_ a (zh ke k_ N a m_):=rfl
def Sz {α:Type} (ke:α) (k_:Int→α) (l0:Int→Int→α) (a:Rows) (k:Int):α:=
 l0 k 0
def nbr (k_:Int→α) (N:Nat) (a:Rows) (k:Int):α:=Sz ke k_ (zh ke k_ N a N) a k
def ri (a:Rows) (k:Int):Int:=k+1*a.length
theorem nnz (k_:Int→α) (a:Rows) (k:Int) (qs:G9 (.sl [.i]) (.sl a)) (aJ:PK rO 1 a k=true):∃N,nbr ke k_ N a k=k_ (ri a k):=by
 obtain⟨hl,hw⟩:=oJ qs
 obtain⟨h0,h1,h2,h3⟩:=nto aJ
 refine⟨a.length+1, ?_⟩
 unfold nbr Sz ri
 refine neR a k 1 rO (zh ke k_ (a.length+1) a) k_ h0 ?_ ?_
 ·intro n i h hn
  rw[UT]
  have w1:nS (k+1*(i:Int)+1)=k+1*(i:Int)+1:=nP (by omega) (by omega)
  simp only[zi,pw h,nY h,oO h hl,Int.toNat_natCast,ng,nn,cond_true,hn,w1,nu_,bne_self_eq_false,rO,cond_false]
 ·intro n
  rw[UT]
  simp only[zi,nX,cond_false]
def yc (k_:Int→Rows→α) (oP:Int→Int→Rows→α) (rj i:Int) (zK:Rows):α:=
 bif decide (i<len zK) then
  bif Ei (Ei true (idx i zK)) (inl (Int.toNat i) zK) then
   oP (nS (rj+1)) (nS (i+1)) (List.set zK (Int.toNat i) (bT (nth zK (Int.toNat i)) 0 [.bool ((Int.tmod rj 3)==0)]))
  else ke
 else k_ rj zK
def yb (k_:Int→Rows→α) (N m_:Nat):Int→Int→Rows→α:=
 Nat.rec (motive:=fun _=>Int→Int→Rows→α) (fun _ _ _=>ke) (fun _ oP=>yc ke k_ oP) m_
theorem Tg (k_:Int→Rows→α) (N m_:Nat):yb ke k_ N (m_+1)=yc ke k_ (yb ke k_ N m_):=rfl
def Qs {α:Type} (ke:α) (k_:Int→Rows→α) (l0:Int→Int→Rows→α) (a:Rows) (k:Int):α:=
 l0 k 0 a
def Y2 (k_:Int→Rows→α) (N:Nat) (a:Rows) (k:Int):α:=Qs ke k_ (yb ke k_ N N) a k
def OG (k:Int):List DC:=[.bool (Int.tmod k 3==0)]
def QH (a:Rows) (k:Int):Int×Rows:=(k+1*a.length,vp OG 1 a.length k)
theorem nk1 (k_:Int→Rows→α) (a:Rows) (k:Int) (qs:G9 (.sl [.bool]) (.sl a)) (aJ:Oz 1 a k=true):∃N,Y2 ke k_ N a k=k_ (QH a k).1 (QH a k).2:=by
 obtain⟨hl,hw⟩:=oJ qs
 obtain⟨h1,h2,h3⟩:=Vz aJ
 refine⟨a.length+1, ?_⟩
 unfold Y2 Qs QH
 refine neU a k 1 OG (yb ke k_ (a.length+1)) k_ ?_ ?_
 ·intro n i b h hb hn
  rw[Tg]
  have w1:nS (k+1*(i:Int)+1)=k+1*(i:Int)+1:=nP (by omega) (by omega)
  have hs:bT (nth a i) 0 (OG (k+1*(i:Int)))=OG (k+1*(i:Int)):=qL (by rw[NX (hw (nth a i) (qi h))];rfl)
  simp only[yc,pw (show i<b.length by omega),nY (show i<b.length by omega),qC (show i<b.length by omega),oO h hl,Int.toNat_natCast,ng,nn,cond_true,hn,w1]
  rw[←hs];rfl
 ·intro n b hb
  rw[Tg]
  simp only[yc,←hb,nX,cond_false]
def xZ (k_:Int→α) (a:Rows) (oP:Int→Int→α) (rj i:Int):α:=
 bif decide (i<len a) then
  bif Ei true (idx i a) then
   bif !((rB (nth a (Int.toNat i)) 0)==((Int.tmod rj 3)==0)) then k_ (-1)
   else oP (nS (rj+1)) (nS (i+1))
  else ke
 else k_ rj
def xY (k_:Int→α) (N:Nat) (a:Rows) (m_:Nat):Int→Int→α:=
 Nat.rec (motive:=fun _=>Int→Int→α) (fun _ _=>ke) (fun _ oP=>xZ ke k_ a oP) m_
theorem S8 (k_:Int→α) (N:Nat) (a:Rows) (m_:Nat):xY ke k_ N a (m_+1)=xZ ke k_ a (xY ke k_ N a m_):=rfl
def Qk {α:Type} (ke:α) (k_:Int→α) (l0:Int→Int→α) (a:Rows) (k:Int):α:=
 l0 k 0
def YN (k_:Int→α) (N:Nat) (a:Rows) (k:Int):α:=Qk ke k_ (xY ke k_ N a N) a k
def TS (a:Rows) (k:Int):Int:=k+1*a.length
theorem nkO (k_:Int→α) (a:Rows) (k:Int) (qs:G9 (.sl [.bool]) (.sl a)) (aJ:PK OG 1 a k=true):∃N,YN ke k_ N a k=k_ (TS a k):=by
 obtain⟨hl,hw⟩:=oJ qs
 obtain⟨h0,h1,h2,h3⟩:=nto aJ
 refine⟨a.length+1, ?_⟩
 unfold YN Qk TS
 refine neR a k 1 OG (xY ke k_ (a.length+1) a) k_ h0 ?_ ?_
 ·intro n i h hn
  rw[S8]
  have w1:nS (k+1*(i:Int)+1)=k+1*(i:Int)+1:=nP (by omega) (by omega)
  simp only[xZ,pw h,nY h,oO h hl,Int.toNat_natCast,ng,nn,cond_true,hn,w1,nu9,beq_self_eq_true,Bool.not_true,OG,cond_false]
 ·intro n
  rw[S8]
  simp only[xZ,nX,cond_false]
def wK (k_:Bytes→α) (oP:Int→Bytes→α) (rj:Int) (oh:Bytes):α:=
 bif decide (0<rj) then
  bif Ei true (oZ (toStr ([[.int (IntKind.wrap .u8 (nS (48+(Int.tmod rj 10))))]])) oh) then
   oP (nS (Int.tdiv rj 10)) ((toStr ([[.int (IntKind.wrap .u8 (nS (48+(Int.tmod rj 10))))]]))++oh)
  else ke
 else bif Ei true (oZ [109] oh) then
   k_ ([109]++oh)
  else ke
def zl (k_:Bytes→α) (N m_:Nat):Int→Bytes→α:=
 Nat.rec (motive:=fun _=>Int→Bytes→α) (fun _ _=>ke) (fun _ oP=>wK ke k_ oP) m_
theorem Ve (k_:Bytes→α) (N m_:Nat):zl ke k_ N (m_+1)=wK ke k_ (zl ke k_ N m_):=rfl
def SB {α:Type} (ke:α) (k_:Bytes→α) (l0:Int→Bytes→α) (k:Int):α:=
 bif decide (k≤0) then k_ [109,48]
 else l0 k []
def nbA (k_:Bytes→α) (N:Nat) (k:Int):α:=SB ke k_ (zl ke k_ N N) k
def mtD (k:Int):Bytes:=toStr ([[.int (IntKind.wrap .u8 (nS (48+(Int.tmod k 10))))]])
def mtl:Nat→Int→Bytes→Bytes
 | 0,_,o=>o
 | n+1,k,o=>bif decide (0<k) then mtl n (nS (Int.tdiv k 10)) (mtD k++o) else o
def R6 (k:Int):Bytes:=bif decide (k≤0) then [109,48] else [109]++mtl 25 k []
theorem nnL (k_:Bytes→α) (k:Int) (h_k:G9 .i (.int k)):∃N,nbA ke k_ N k=k_ (R6 k):=by
 have h63:=vn h_k
 refine⟨26, ?_⟩
 have key:∀(n:Nat) (k:Int) (o:Bytes),0≤k→k≤9223372036854775807→k<10 ^ n→o.length+n≤100→
   zl ke k_ 26 (n+1) k o=k_ ([109]++mtl n k o):=by
  intro n
  induction n with
  | zero=>
   intro k o h0 h1 h2 h3
   have:k=0:=by simp only[Int.pow_zero] at h2;omega
   subst this
   rw[Ve]
   have c1:oZ [109] o=true:=by simp only[oZ,List.length_cons,List.length_nil,decide_eq_true_eq];omega
   simp only[wK,c1,ng,cond_true,mtl]
   rfl
  | succ n ih=>
   intro k o h0 h1 h2 h3
   rw[Ve]
   have c1:oZ [109] o=true:=by simp only[oZ,List.length_cons,List.length_nil,decide_eq_true_eq];omega
   by_cases hk:0<k
   ·have l1:(mtD k).length=1:=rfl
    have c2:oZ (mtD k) o=true:=by simp only[oZ,l1,decide_eq_true_eq];omega
    have e1:Int.tdiv k 10=k / 10:=Int.tdiv_eq_ediv_of_nonneg h0
    have e2:nS (Int.tdiv k 10)=k / 10:=by rw[e1];exact nP (by omega) (by omega)
    have:=ih (k / 10) (mtD k++o) (by omega) (by omega) (by rw[Int.pow_succ] at h2;omega) (by rw[List.length_append,l1];omega)
    have hd:decide (0<k)=true:=decide_eq_true hk
    unfold wK mtl
    rw[hd,e2]
    show (bif Ei true (oZ (mtD k) o) then _ else ke)=_
    rw[c2]
    exact this
   ·have hd:decide (0<k)=false:=decide_eq_false hk
    simp only[wK,hd,c1,ng,cond_true,cond_false,mtl]
 unfold nbA SB R6
 by_cases h:k≤0
 ·simp only[decide_eq_true h,cond_true]
 ·simp only[decide_eq_false h,cond_false]
  exact key 25 k [] (by omega) (by omega) (by omega) (by simp)
def wA (k_:Int→Rows→α) (oP:Int→Int→Rows→α) (rj i:Int) (zK:Rows):α:=
 bif decide (i<len zK) then
  bif Ei (Ei true (idx i zK)) (inl (Int.toNat i) zK) then
   oP (nS (rj+1)) (nS (i+1)) (List.set zK (Int.toNat i) (bT (nth zK (Int.toNat i)) 0 [.str (R6 rj)]))
  else ke
 else k_ rj zK
def wz (k_:Int→Rows→α) (N m_:Nat):Int→Int→Rows→α:=
 Nat.rec (motive:=fun _=>Int→Int→Rows→α) (fun _ _ _=>ke) (fun _ oP=>wA ke k_ oP) m_
theorem PV (k_:Int→Rows→α) (N m_:Nat):wz ke k_ N (m_+1)=wA ke k_ (wz ke k_ N m_):=rfl
def Od {α:Type} (ke:α) (k_:Int→Rows→α) (l0:Int→Int→Rows→α) (a:Rows) (k:Int):α:=
 l0 k 0 a
def Vc (k_:Int→Rows→α) (N:Nat) (a:Rows) (k:Int):α:=Od ke k_ (wz ke k_ N N) a k
def sK (k:Int):List DC:=[.str (R6 k)]
def uO (a:Rows) (k:Int):Int×Rows:=(k+1*a.length,vp sK 1 a.length k)
theorem nhj (k_:Int→Rows→α) (a:Rows) (k:Int) (qs:G9 (.sl [.str]) (.sl a)) (aJ:Oz 1 a k=true):∃N,Vc ke k_ N a k=k_ (uO a k).1 (uO a k).2:=by
 obtain⟨hl,hw⟩:=oJ qs
 obtain⟨h1,h2,h3⟩:=Vz aJ
 refine⟨a.length+1, ?_⟩
 unfold Vc Od uO
 refine neU a k 1 sK (wz ke k_ (a.length+1)) k_ ?_ ?_
 ·intro n i b h hb hn
  rw[PV]
  have w1:nS (k+1*(i:Int)+1)=k+1*(i:Int)+1:=nP (by omega) (by omega)
  have hs:bT (nth a i) 0 (sK (k+1*(i:Int)))=sK (k+1*(i:Int)):=qL (by rw[NX (hw (nth a i) (qi h))];rfl)
  simp only[wA,pw (show i<b.length by omega),nY (show i<b.length by omega),qC (show i<b.length by omega),oO h hl,Int.toNat_natCast,ng,nn,cond_true,hn,w1]
  rw[←hs];rfl
 ·intro n b hb
  rw[PV]
  simp only[wA,←hb,nX,cond_false]
def wy (k_:Int→α) (a:Rows) (oP:Int→Int→α) (rj i:Int):α:=
 bif decide (i<len a) then
  bif Ei true (idx i a) then
   bif !((rS (nth a (Int.toNat i)) 0)==(R6 rj)) then k_ (-1)
   else oP (nS (rj+1)) (nS (i+1))
  else ke
 else k_ rj
def wx (k_:Int→α) (N:Nat) (a:Rows) (m_:Nat):Int→Int→α:=
 Nat.rec (motive:=fun _=>Int→Int→α) (fun _ _=>ke) (fun _ oP=>wy ke k_ a oP) m_
theorem PU (k_:Int→α) (N:Nat) (a:Rows) (m_:Nat):wx ke k_ N a (m_+1)=wy ke k_ a (wx ke k_ N a m_):=rfl
def Oa {α:Type} (ke:α) (k_:Int→α) (l0:Int→Int→α) (a:Rows) (k:Int):α:=
 l0 k 0
def U1 (k_:Int→α) (N:Nat) (a:Rows) (k:Int):α:=Oa ke k_ (wx ke k_ N a N) a k
def uL (a:Rows) (k:Int):Int:=k+1*a.length
theorem nha (k_:Int→α) (a:Rows) (k:Int) (qs:G9 (.sl [.str]) (.sl a)) (aJ:PK sK 1 a k=true):∃N,U1 ke k_ N a k=k_ (uL a k):=by
 obtain⟨hl,hw⟩:=oJ qs
 obtain⟨h0,h1,h2,h3⟩:=nto aJ
 refine⟨a.length+1, ?_⟩
 unfold U1 Oa uL
 refine neR a k 1 sK (wx ke k_ (a.length+1) a) k_ h0 ?_ ?_
 ·intro n i h hn
  rw[PU]
  have w1:nS (k+1*(i:Int)+1)=k+1*(i:Int)+1:=nP (by omega) (by omega)
  simp only[wy,pw h,nY h,oO h hl,Int.toNat_natCast,ng,nn,cond_true,hn,w1,ndZ,beq_self_eq_true,Bool.not_true,sK,cond_false]
 ·intro n
  rw[PU]
  simp only[wy,nX,cond_false]
inductive FK where
 | i
 | b
 | s
def FK.v:FK→Int→DC
 | .i,k=> .int k
 | .b,k=> .bool (Int.tmod k 3==0)
 | .s,k=> .str (R6 k)
def FK.ne:FK→List DC→Nat→Int→Bool
 | .i,r,w,k=>rI r w != k
 | .b,r,w,k=> !(rB r w==(Int.tmod k 3==0))
 | .s,r,w,k=> !(rS r w==R6 k)
def fkF (ks:List FK):Int→List DC:=
 List.rec (motive:=fun _=>Int→List DC) (fun _=>[]) (fun f _ ih k=>f.v k::ih (k+1)) ks
theorem nvN (p:List DC) (x y:DC) (r:List DC) {w:Nat} (h:p.length=w):bT (p++x::r) w [y]=p++y::r:=by
 subst h
 simp [bT]
theorem ntn (p:List DC) (x d:DC) (r:List DC) {w:Nat} (h:p.length=w):(p++x::r).getD w d=x:=by
 subst h
 simp
theorem nuj {A:Rows} {i:Nat} (hi:i<A.length):A.set i (nth A i)=A:=by
 have e:nth A i=A[i]:=by simp [nth,hi]
 rw[e,List.set_getElem_self]
def mkG (i:Int) (fin:Int→Rows→α) (ks:List FK):Nat→Int→Rows→α:=
 List.rec (motive:=fun _=>Nat→Int→Rows→α) (fun _ k A=>fin k A) (fun f _ ih w k A=>bif Ei (Ei true (idx i A)) (inl (Int.toNat i) A) then ih (w+1) (nS (k+1)) (List.set A (Int.toNat i) (bT (nth A (Int.toNat i)) w [f.v k])) else ke) ks
theorem nwW (i:Nat) (fin:Int→Rows→α):∀(ks:List FK) (w:Nat) (K:Int) (A:Rows) (p r:List DC),i<A.length→nth A i=p++r→p.length=w→r.length=ks.length→0≤K→K+ks.length≤9223372036854775807→
  mkG ke (i:Int) fin ks w K A=fin (K+ks.length) (A.set i (p++fkF ks K)):=by
 intro ks
 induction ks with
 | nil=>
  intro w K A p r hi hn hp hr h0 h1
  have hr:r=[]:=List.length_eq_zero_iff.1 hr
  subst hr
  show fin K A=fin (K+((0:Nat):Int)) (A.set i (p++[]))
  rw[←hn,nuj hi]
  simp
 | cons f fs ih=>
  intro w K A p r hi hn hp hr h0 h1
  cases r with
  | nil=>cases hr
  | cons x r=>
   have hf:((f::fs).length:Int)=(fs.length:Int)+1:=by simp
   rw[hf] at h1 ⊢
   show (bif Ei (Ei true (idx (i:Int) A)) (inl (Int.toNat (i:Int)) A) then mkG ke (i:Int) fin fs (w+1) (nS (K+1)) (List.set A (Int.toNat (i:Int)) (bT (nth A (Int.toNat (i:Int))) w [f.v K])) else ke)=_
   simp only[Int.toNat_natCast,nY hi,qC hi,ng,cond_true]
   rw[show nS (K+1)=K+1 from nP (by omega) (by omega),hn,nvN p x (f.v K) r hp]
   refine (ih (w+1) (K+1) _ (p++[f.v K]) r (by rw[List.length_set];exact hi) (by rw[Nk hi,List.append_assoc];rfl) (by simp [hp]) (by simpa using hr) (by omega) (by omega)).trans ?_
   rw[List.set_set,show K+1+(fs.length:Int)=K+((fs.length:Int)+1) by omega,List.append_assoc]
   rfl
def mkL (ks:List FK) {α:Type} (ke:α) (k_:Int→Rows→α) (oP:Int→Int→Rows→α) (k i:Int) (a:Rows):α:=
 bif decide (i<len a) then mkG ke i (fun k A=>oP k (nS (i+1)) A) ks 0 k a else k_ k a
def nsy (ks:List FK) {α:Type} (ke:α) (k_:Int→Rows→α) (N m_:Nat):Int→Int→Rows→α:=
 Nat.rec (motive:=fun _=>Int→Int→Rows→α) (fun _ _ _=>ke) (fun _ oP=>mkL ks ke k_ oP) m_
def mkT {α:Type} (ke:α) (k_:Int→Rows→α) (l0:Int→Int→Rows→α) (a:Rows) (k:Int):α:=l0 k 0 a
def nlJ (ks:List FK) {α:Type} (ke:α) (k_:Int→Rows→α) (N:Nat) (a:Rows) (k:Int):α:=mkT ke k_ (nsy ks ke k_ N N) a k
theorem nqG {c:Int} (h0:0≤c) (h1:c≤1000) {i:Nat} (hi:i≤16777216):0≤c*(i:Int)∧c*(i:Int)≤16777216000:=by
 refine⟨Int.mul_nonneg h0 (by omega), ?_⟩
 have:=Int.mul_le_mul h1 (show (i:Int)≤16777216 by omega) (by omega) (by omega)
 omega
theorem nvK {α:Type} (ks:List FK) (c:Int) (hc:(ks.length:Int)=c) (JL:c≤1000) (ke:α) (k_:Int→Rows→α) (a:Rows) (k:Int) (hl:a.length≤9223372036854775807) (hr:∀r∈a,r.length=ks.length) (aJ:Oz c a k=true):
  ∃N,nlJ ks ke k_ N a k=k_ (k+c*a.length) (vp (fkF ks) c a.length k):=by
 obtain⟨h1,h2,h3⟩:=Vz aJ
 refine⟨a.length+1, ?_⟩
 refine neU a k c (fkF ks) (nsy ks ke k_ (a.length+1)) k_ ?_ ?_
 ·intro n i b h hb hn
  show mkL ks ke k_ (nsy ks ke k_ (a.length+1) n) (k+c*i) (i:Int) b=_
  have mg:i<b.length:=by omega
  have hw:=hr _ (qi h)
  have hm:=nqG (c:=c) (by omega) JL (show i≤16777216 by omega)
  unfold mkL
  rw[pw mg,cond_true]
  refine (nwW ke i _ ks 0 (k+c*i) b [] (nth a i) mg hn rfl hw (by omega) (by omega)).trans ?_
  rw[oO h hl,hc]
  rfl
 ·intro n b hb
  show mkL ks ke k_ (nsy ks ke k_ (a.length+1) n) (k+c*a.length) (a.length:Int) b=_
  unfold mkL
  rw[←hb,nX,cond_false]
def hlG {α:Type} (ke no:α) (a:Rows) (i:Int) (fin:Int→α) (ks:List FK):Nat→Int→α:=
 List.rec (motive:=fun _=>Nat→Int→α) (fun _ k=>fin k) (fun f _ ih w k=>bif Ei true (idx i a) then bif f.ne (nth a (Int.toNat i)) w k then no else ih (w+1) (nS (k+1)) else ke) ks
theorem nwU {α:Type} (ke no:α) (a:Rows) (i:Nat) (hi:i<a.length) (fin:Int→α):∀(ks:List FK) (w:Nat) (K:Int) (p:List DC),nth a i=p++fkF ks K→p.length=w→0≤K→K+ks.length≤9223372036854775807→
  hlG ke no a (i:Int) fin ks w K=fin (K+ks.length):=by
 intro ks
 induction ks with
 | nil=>
  intro w K p hn hp h0 h1
  show fin K=fin (K+((0:Nat):Int))
  simp
 | cons f fs ih=>
  intro w K p hn hp h0 h1
  have hf:((f::fs).length:Int)=(fs.length:Int)+1:=by simp
  rw[hf] at h1 ⊢
  have hn:nth a i=p++f.v K::fkF fs (K+1):=hn
  show (bif Ei true (idx (i:Int) a) then bif f.ne (nth a (Int.toNat (i:Int))) w K then no else hlG ke no a (i:Int) fin fs (w+1) (nS (K+1)) else ke)=_
  have he:f.ne (nth a i) w K=false:=by
   rw[hn]
   cases f
   ·simp only[FK.ne,rI,ntn p _ _ _ hp,FK.v,DC.asInt,bne_self_eq_false]
   ·simp only[FK.ne,rB,ntn p _ _ _ hp,FK.v,DC.asBool,beq_self_eq_true,Bool.not_true]
   ·simp only[FK.ne,rS,ntn p _ _ _ hp,FK.v,DC.Gw,beq_self_eq_true,Bool.not_true]
  simp only[Int.toNat_natCast,nY hi,ng,cond_true,cond_false,he]
  rw[show nS (K+1)=K+1 from nP (by omega) (by omega)]
  refine (ih (w+1) (K+1) (p++[f.v K]) (by rw[hn,List.append_assoc];rfl) (by simp [hp]) (by omega) (by omega)).trans ?_
  rw[show K+1+(fs.length:Int)=K+((fs.length:Int)+1) by omega]
def hlL (ks:List FK) {α:Type} (ke:α) (k_:Int→α) (a:Rows) (oP:Int→Int→α) (k i:Int):α:=
 bif decide (i<len a) then hlG ke (k_ (-1)) a i (fun k=>oP k (nS (i+1))) ks 0 k else k_ k
def nrH (ks:List FK) {α:Type} (ke:α) (k_:Int→α) (N:Nat) (a:Rows) (m_:Nat):Int→Int→α:=
 Nat.rec (motive:=fun _=>Int→Int→α) (fun _ _=>ke) (fun _ oP=>hlL ks ke k_ a oP) m_
def hlT {α:Type} (ke:α) (k_:Int→α) (l0:Int→Int→α) (a:Rows) (k:Int):α:=l0 k 0
def nkf (ks:List FK) {α:Type} (ke:α) (k_:Int→α) (N:Nat) (a:Rows) (k:Int):α:=hlT ke k_ (nrH ks ke k_ N a N) a k
theorem nvF {α:Type} (ks:List FK) (c:Int) (hc:(ks.length:Int)=c) (JL:c≤1000) (ke:α) (k_:Int→α) (a:Rows) (k:Int) (hl:a.length≤9223372036854775807) (aJ:PK (fkF ks) c a k=true):
  ∃N,nkf ks ke k_ N a k=k_ (k+c*a.length):=by
 obtain⟨h0,h1,h2,h3⟩:=nto aJ
 refine⟨a.length+1, ?_⟩
 refine neR a k c (fkF ks) (nrH ks ke k_ (a.length+1) a) k_ h0 ?_ ?_
 ·intro n i h hn
  show hlL ks ke k_ a (nrH ks ke k_ (a.length+1) a n) (k+c*i) (i:Int)=_
  have hm:=nqG (c:=c) (by omega) JL (show i≤16777216 by omega)
  unfold hlL
  rw[pw h,cond_true]
  refine (nwU ke _ a i h _ ks 0 (k+c*i) [] hn rfl (by omega) (by omega)).trans ?_
  rw[oO h hl,hc]
 ·intro n
  show hlL ks ke k_ a (nrH ks ke k_ (a.length+1) a n) (k+c*a.length) (a.length:Int)=_
  unfold hlL
  rw[nX,cond_false]
def VA:List FK:=[.i,.i,.i,.i,.i,.i,.s,.b]
def OH:Int→List DC:=fkF VA
def Ox (a:Rows) (k:Int):Int×Rows:=(k+8*a.length,vp OH 8 a.length k)
theorem nhg (k_:Int→Rows→α) (a:Rows) (k:Int) (qs:G9 (.sl [.i,.i,.i,.i,.i,.i,.str,.bool]) (.sl a)) (aJ:Oz 8 a k=true):∃N,nlJ VA ke k_ N a k=k_ (Ox a k).1 (Ox a k).2:=by
 obtain⟨hl,hw⟩:=oJ qs
 exact nvK VA 8 (by rfl) (by decide) ke k_ a k hl (fun r hr=>NX (hw r hr)) aJ
def RP (a:Rows) (k:Int):Int:=k+8*a.length
theorem ng8 (k_:Int→α) (a:Rows) (k:Int) (qs:G9 (.sl [.i,.i,.i,.i,.i,.i,.str,.bool]) (.sl a)) (aJ:PK OH 8 a k=true):∃N,nkf VA ke k_ N a k=k_ (RP a k):=by
 exact nvF VA 8 (by rfl) (by decide) ke k_ a k (oJ qs).1 aJ
def nhA:List FK:=[.i,.i,.i,.i,.i,.i,.i]
def Z0:Int→List DC:=fkF nhA
def QI (a:Rows) (k:Int):Int×Rows:=(k+7*a.length,vp Z0 7 a.length k)
theorem nlb (k_:Int→Rows→α) (a:Rows) (k:Int) (qs:G9 (.sl [.i,.i,.i,.i,.i,.i,.i]) (.sl a)) (aJ:Oz 7 a k=true):∃N,nlJ nhA ke k_ N a k=k_ (QI a k).1 (QI a k).2:=by
 obtain⟨hl,hw⟩:=oJ qs
 exact nvK nhA 7 (by rfl) (by decide) ke k_ a k hl (fun r hr=>NX (hw r hr)) aJ
def TU (a:Rows) (k:Int):Int:=k+7*a.length
theorem nkZ (k_:Int→α) (a:Rows) (k:Int) (qs:G9 (.sl [.i,.i,.i,.i,.i,.i,.i]) (.sl a)) (aJ:PK Z0 7 a k=true):∃N,nkf nhA ke k_ N a k=k_ (TU a k):=by
 exact nvF nhA 7 (by rfl) (by decide) ke k_ a k (oJ qs).1 aJ
def QM:List FK:=[.i,.i,.i,.i,.i,.i,.i,.i,.i,.i,.i,.i,.i,.i,.i,.i,.i,.i,.i,.i,.i,.i,.i,.i,.i,.s,.i,.i,.b,.i]
def yX:Int→List DC:=fkF QM
def zs (a:Rows) (k:Int):Int×Rows:=(k+30*a.length,vp yX 30 a.length k)
theorem nfl (k_:Int→Rows→α) (a:Rows) (k:Int) (qs:G9 (.sl [.i,.i,.i,.i,.i,.i,.i,.i,.i,.i,.i,.i,.i,.i,.i,.i,.i,.i,.i,.i,.i,.i,.i,.i,.i,.str,.i,.i,.bool,.i]) (.sl a)) (aJ:Oz 30 a k=true):∃N,nlJ QM ke k_ N a k=k_ (zs a k).1 (zs a k).2:=by
 obtain⟨hl,hw⟩:=oJ qs
 exact nvK QM 30 (by rfl) (by decide) ke k_ a k hl (fun r hr=>NX (hw r hr)) aJ
def OO (a:Rows) (k:Int):Int:=k+30*a.length
theorem nfb (k_:Int→α) (a:Rows) (k:Int) (qs:G9 (.sl [.i,.i,.i,.i,.i,.i,.i,.i,.i,.i,.i,.i,.i,.i,.i,.i,.i,.i,.i,.i,.i,.i,.i,.i,.i,.str,.i,.i,.bool,.i]) (.sl a)) (aJ:PK yX 30 a k=true):∃N,nkf QM ke k_ N a k=k_ (OO a k):=by
 exact nvF QM 30 (by rfl) (by decide) ke k_ a k (oJ qs).1 aJ
def ye (k_:Int→Rows→α) (oP:Int→Int→Rows→α) (rj i:Int) (zK:Rows):α:=
 let z0:Rows:=List.set zK (Int.toNat i) (bT (nth zK (Int.toNat i)) 0 [.int rj])
 let z1:Rows:=List.set z0 (Int.toNat i) (bT (nth z0 (Int.toNat i)) 1 [.int (nS (rj+1))])
 let z2:Int:=nS ((nS (rj+1))+1)
 let z3:Rows:=List.set z1 (Int.toNat i) (bT (nth z1 (Int.toNat i)) 2 [.int z2])
 let z4:List DC:=nth z3 (Int.toNat i)
 let z5:Rows:=rR z4 3
 let z6:Int:=nS (z2+1)
 let z7:Int×Rows:=se z5 z6
 bif decide (i<len zK) then
  bif Ei (Ei true (idx i zK)) (inl (Int.toNat i) zK) then
   bif Ei (Ei true (idx i z0)) (inl (Int.toNat i) z0) then
    bif Ei (Ei true (idx i z1)) (inl (Int.toNat i) z1) then
     bif Ei (Ei (Ei true (idx i z3)) (inl (Int.toNat i) z3)) (Oz 1 z5 z6) then
      oP z7.1 (nS (i+1)) (List.set z3 (Int.toNat i) (bT z4 3 [.sl z7.2]))
     else ke
    else ke
   else ke
  else ke
 else k_ rj zK
def yd (k_:Int→Rows→α) (N m_:Nat):Int→Int→Rows→α:=
 Nat.rec (motive:=fun _=>Int→Int→Rows→α) (fun _ _ _=>ke) (fun _ oP=>ye ke k_ oP) m_
theorem Tj (k_:Int→Rows→α) (N m_:Nat):yd ke k_ N (m_+1)=ye ke k_ (yd ke k_ N m_):=rfl
def Qu {α:Type} (ke:α) (k_:Int→Rows→α) (l0:Int→Int→Rows→α) (a:Rows) (k:Int):α:=
 l0 k 0 a
def Y6 (k_:Int→Rows→α) (N:Nat) (a:Rows) (k:Int):α:=Qu ke k_ (yd ke k_ N N) a k
def su (r:List DC) (k:Int):List DC×Int:=([.int (k),.int (k+1),.int (k+1+1),.sl (vp rO 1 (rR r 3).length (k+1+1+1))],k+1+1+1+1*(rR r 3).length)
def Si (r:List DC) (k:Int):Bool:=Oz 1 (rR r 3) (k+1+1+1)
def zr (a:Rows) (k:Int):Int×Rows:=((R7 su a k).2,(R7 su a k).1)
theorem nk4 (k_:Int→Rows→α) (a:Rows) (k:Int) (qs:G9 (.sl [.i,.i,.i,.sl [.i]]) (.sl a)) (aJ:ym su Si a k=true):∃N,Y6 ke k_ N a k=k_ (zr a k).1 (zr a k).2:=by
 obtain⟨hl,hw⟩:=oJ qs
 refine⟨a.length+1, ?_⟩
 unfold Y6 Qu zr
 refine nuc a k su Si (yd ke k_ (a.length+1)) k_ aJ ?_ ?_
 ·intro n i k b h hb hn hg
  rw[Tj]
  have hr:=NX (hw (nth a i) (qi h))
  have hk: -1*4≤k:=by have:=(Vz hg).2.1;omega
  rw[←hn] at hg hr ⊢
  have mg:i<b.length:=by omega
  generalize MJ:nth b i=r at*
  match r,hr with
  | [a0,a1,a2,a3],_=>
   have H9:Oz 1 (DC.cq a3) (k+1+1+1)=true:=hg
   obtain⟨g1,g2,g3⟩:=Vz H9
   have rr:∀x0 x1 x2 x3:DC,rR [x0,x1,x2,x3] 3=DC.cq x3:=fun _ _ _ _=>rfl
   have s0:∀x0 x1 x2 x3 v:DC,bT [x0,x1,x2,x3] 0 [v]=[v,x1,x2,x3]:=fun _ _ _ _ _=>rfl
   have s1:∀x0 x1 x2 x3 v:DC,bT [x0,x1,x2,x3] 1 [v]=[x0,v,x2,x3]:=fun _ _ _ _ _=>rfl
   have s2:∀x0 x1 x2 x3 v:DC,bT [x0,x1,x2,x3] 2 [v]=[x0,x1,v,x3]:=fun _ _ _ _ _=>rfl
   have s3:∀x0 x1 x2 x3 v:DC,bT [x0,x1,x2,x3] 3 [v]=[x0,x1,x2,v]:=fun _ _ _ _ _=>rfl
   have w0:nS (k+1)=k+1:=nP (by omega) (by omega)
   have w1:nS (k+1+1)=k+1+1:=nP (by omega) (by omega)
   have w2:nS (k+1+1+1)=k+1+1+1:=nP (by omega) (by omega)
   simp only[ye,pw mg,nY mg,qC mg,oO h hl,Int.toNat_natCast,ng,nn,cond_true,MJ,w0,w1,w2,RS,O_,List.set_set,Nk mg,s0,s1,s2,s3,rr,se,H9,su]
 ·intro n k b hb
  rw[Tj]
  simp only[ye,←hb,nX,cond_false]
def Xn (a:Rows):Bool:=sm a && a.all (fun r=>sm (rR r 3))
theorem noi {a:Rows} (h:Xn a=true) {k:Int} (h0:0≤k) (h1:k≤600000000000000):ym su Si a k=true∧k≤(zr a k).1∧(zr a k).1≤k+281475110928384:=by
 simp only[Xn,Bool.and_eq_true,List.all_eq_true] at h
 have hl:=sO h.1
 obtain⟨h2,h3,h4⟩:=nlK (f:=su) (g:=Si) (B:=1125899906842000) (C:=16777224) (by omega) a k (fun r hr k k0 k1=>by
  have hs:=sO (h.2 r hr)
  refine⟨yJ (h.2 r hr) (by omega) (by omega), ?_, ?_⟩
  ·show k≤k+1+1+1+1*((rR r 3).length:Int)
   omega
  ·show k+1+1+1+1*((rR r 3).length:Int)≤k+16777224
   omega) h0 (by omega)
 exact⟨h2,h3,by show (R7 su a k).2≤_;omega⟩
def x9 (k_:Int→α) (a:Rows) (oP:Int→Int→α) (rj i:Int):α:=
 let z0:Int:=nS ((nS (rj+1))+1)
 let z1:Int:=nS (z0+1)
 let z2:Int:=ri (rR (nth a (Int.toNat i)) 3) z1
 bif decide (i<len a) then
  bif Ei true (idx i a) then
   bif (rI (nth a (Int.toNat i)) 0) != rj then k_ (-1)
   else bif Ei true (idx i a) then
     bif (rI (nth a (Int.toNat i)) 1) != (nS (rj+1)) then k_ (-1)
     else bif Ei true (idx i a) then
       bif (rI (nth a (Int.toNat i)) 2) != z0 then k_ (-1)
       else bif Ei (Ei true (idx i a)) (PK rO 1 (rR (nth a (Int.toNat i)) 3) z1) then
         bif decide (z2<0) then k_ (-1)
         else oP z2 (nS (i+1))
        else ke
      else ke
    else ke
  else ke
 else k_ rj
def x8 (k_:Int→α) (N:Nat) (a:Rows) (m_:Nat):Int→Int→α:=
 Nat.rec (motive:=fun _=>Int→Int→α) (fun _ _=>ke) (fun _ oP=>x9 ke k_ a oP) m_
theorem Ta (k_:Int→α) (N:Nat) (a:Rows) (m_:Nat):x8 ke k_ N a (m_+1)=x9 ke k_ a (x8 ke k_ N a m_):=rfl
def Qm {α:Type} (ke:α) (k_:Int→α) (l0:Int→Int→α) (a:Rows) (k:Int):α:=
 l0 k 0
def YR (k_:Int→α) (N:Nat) (a:Rows) (k:Int):α:=Qm ke k_ (x8 ke k_ N a N) a k
def neS (a:Rows) (k:Int):Bool:=same a (R7 su a k).1 && ym su Si a k
def X9 (a:Rows) (k:Int):Int:=(R7 su a k).2
theorem nkR (k_:Int→α) (a:Rows) (k:Int) (qs:G9 (.sl [.i,.i,.i,.sl [.i]]) (.sl a)) (aJ:neS a k=true):∃N,YR ke k_ N a k=k_ (X9 a k):=by
 obtain⟨hl,hw⟩:=oJ qs
 simp only[neS,Bool.and_eq_true] at aJ
 refine⟨a.length+1, ?_⟩
 unfold YR Qm X9
 refine nt7 a k su Si (x8 ke k_ (a.length+1) a) k_ aJ.2 (rA aJ.1) ?_ ?_
 ·intro n i k h hn hg
  rw[Ta]
  have H9:Oz 1 (rR (nth a i) 3) (k+1+1+1)=true:=hg
  obtain⟨g1,g2,g3⟩:=Vz H9
  have e:rR (nth a i) 3=vp rO 1 (rR (nth a i) 3).length (k+1+1+1):=congrArg (fun r=>rR r 3) hn
  have hh:PK rO 1 (rR (nth a i) 3) (k+1+1+1)=true:=by
   simp only[PK,Bool.and_eq_true]
   exact⟨by rw[←e];exact pV _,H9⟩
  have r0:rI (nth a i) 0=k:=congrArg (fun r=>rI r 0) hn
  have r1:rI (nth a i) 1=k+1:=congrArg (fun r=>rI r 1) hn
  have r2:rI (nth a i) 2=k+1+1:=congrArg (fun r=>rI r 2) hn
  have w0:nS (k+1)=k+1:=nP (by omega) (by omega)
  have w1:nS (k+1+1)=k+1+1:=nP (by omega) (by omega)
  have w2:nS (k+1+1+1)=k+1+1+1:=nP (by omega) (by omega)
  have hz:¬k+1+1+1+1*((rR (nth a i) 3).length:Int)<0:=by omega
  simp only[x9,pw h,nY h,oO h hl,Int.toNat_natCast,ng,nn,cond_true,hh,ri,hz,w0,w1,w2,r0,r1,r2,bne_self_eq_false,beq_self_eq_true,Bool.not_true,decide_false,cond_false,su]
 ·intro n k
  rw[Ta]
  simp only[x9,nX,cond_false]
theorem nwC {a:Rows} (h:Xn a=true) {k:Int} (h0:0≤k) (h1:k≤600000000000000):ym su Si a k=true∧neS (R7 su a k).1 k=true∧(R7 su (R7 su a k).1 k).2=(R7 su a k).2∧k≤(R7 su a k).2∧(R7 su a k).2≤k+281475110928384:=by
 obtain⟨h2,h3,h4⟩:=noi h h0 h1
 have hl:∀r k,(rR (su r k).1 3).length=(rR r 3).length:=fun r k=>qg rO 1 _ _
 have hf:∀r k,su (su r k).1 k=su r k:=by
  intro r k
  have e:=hl r k
  unfold su at e ⊢
  simp only[e]
 have hg:∀r k,Si (su r k).1 k=Si r k:=by
  intro r k
  simp only[Si,Oz,sm,hl]
 obtain⟨t1,t2⟩:=nlL hf hg a k
 refine⟨h2, ?_,by rw[t1],h3,h4⟩
 simp only[neS,t1,t2,h2,pV,Bool.and_self]
def yg (k_:Int→Rows→α) (oP:Int→Int→Rows→α) (rj i:Int) (zK:Rows):α:=
 let z0:Rows:=List.set zK (Int.toNat i) (bT (nth zK (Int.toNat i)) 0 [.int rj])
 let z1:Rows:=List.set z0 (Int.toNat i) (bT (nth z0 (Int.toNat i)) 1 [.int (nS (rj+1))])
 let z2:List DC:=nth z1 (Int.toNat i)
 let z3:Rows:=rR z2 2
 let z4:Int:=nS ((nS (rj+1))+1)
 let z5:Int×Rows:=se z3 z4
 bif decide (i<len zK) then
  bif Ei (Ei true (idx i zK)) (inl (Int.toNat i) zK) then
   bif Ei (Ei true (idx i z0)) (inl (Int.toNat i) z0) then
    bif Ei (Ei (Ei true (idx i z1)) (inl (Int.toNat i) z1)) (Oz 1 z3 z4) then
     oP z5.1 (nS (i+1)) (List.set z1 (Int.toNat i) (bT z2 2 [.sl z5.2]))
    else ke
   else ke
  else ke
 else k_ rj zK
def yf (k_:Int→Rows→α) (N m_:Nat):Int→Int→Rows→α:=
 Nat.rec (motive:=fun _=>Int→Int→Rows→α) (fun _ _ _=>ke) (fun _ oP=>yg ke k_ oP) m_
theorem Tn (k_:Int→Rows→α) (N m_:Nat):yf ke k_ N (m_+1)=yg ke k_ (yf ke k_ N m_):=rfl
def Qx {α:Type} (ke:α) (k_:Int→Rows→α) (l0:Int→Int→Rows→α) (a:Rows) (k:Int):α:=
 l0 k 0 a
def Zb (k_:Int→Rows→α) (N:Nat) (a:Rows) (k:Int):α:=Qx ke k_ (yf ke k_ N N) a k
def sw (r:List DC) (k:Int):List DC×Int:=([.int (k),.int (k+1),.sl (vp rO 1 (rR r 2).length (k+1+1))],k+1+1+1*(rR r 2).length)
def Sj (r:List DC) (k:Int):Bool:=Oz 1 (rR r 2) (k+1+1)
def zt (a:Rows) (k:Int):Int×Rows:=((R7 sw a k).2,(R7 sw a k).1)
theorem nk9 (k_:Int→Rows→α) (a:Rows) (k:Int) (qs:G9 (.sl [.i,.i,.sl [.i]]) (.sl a)) (aJ:ym sw Sj a k=true):∃N,Zb ke k_ N a k=k_ (zt a k).1 (zt a k).2:=by
 obtain⟨hl,hw⟩:=oJ qs
 refine⟨a.length+1, ?_⟩
 unfold Zb Qx zt
 refine nuc a k sw Sj (yf ke k_ (a.length+1)) k_ aJ ?_ ?_
 ·intro n i k b h hb hn hg
  rw[Tn]
  have hr:=NX (hw (nth a i) (qi h))
  have hk: -1*3≤k:=by have:=(Vz hg).2.1;omega
  rw[←hn] at hg hr ⊢
  have mg:i<b.length:=by omega
  generalize MJ:nth b i=r at*
  match r,hr with
  | [a0,a1,a2],_=>
   have H9:Oz 1 (DC.cq a2) (k+1+1)=true:=hg
   obtain⟨g1,g2,g3⟩:=Vz H9
   have rr:∀x0 x1 x2:DC,rR [x0,x1,x2] 2=DC.cq x2:=fun _ _ _=>rfl
   have s0:∀x0 x1 x2 v:DC,bT [x0,x1,x2] 0 [v]=[v,x1,x2]:=fun _ _ _ _=>rfl
   have s1:∀x0 x1 x2 v:DC,bT [x0,x1,x2] 1 [v]=[x0,v,x2]:=fun _ _ _ _=>rfl
   have s2:∀x0 x1 x2 v:DC,bT [x0,x1,x2] 2 [v]=[x0,x1,v]:=fun _ _ _ _=>rfl
   have w0:nS (k+1)=k+1:=nP (by omega) (by omega)
   have w1:nS (k+1+1)=k+1+1:=nP (by omega) (by omega)
   simp only[yg,pw mg,nY mg,qC mg,oO h hl,Int.toNat_natCast,ng,nn,cond_true,MJ,w0,w1,RS,O_,List.set_set,Nk mg,s0,s1,s2,rr,se,H9,sw]
 ·intro n k b hb
  rw[Tn]
  simp only[yg,←hb,nX,cond_false]
def Pv (a:Rows):Bool:=sm a && a.all (fun r=>sm (rR r 2))
theorem noj {a:Rows} (h:Pv a=true) {k:Int} (h0:0≤k) (h1:k≤600000000000000):ym sw Sj a k=true∧k≤(zt a k).1∧(zt a k).1≤k+281475110928384:=by
 simp only[Pv,Bool.and_eq_true,List.all_eq_true] at h
 have hl:=sO h.1
 obtain⟨h2,h3,h4⟩:=nlK (f:=sw) (g:=Sj) (B:=1125899906842000) (C:=16777224) (by omega) a k (fun r hr k k0 k1=>by
  have hs:=sO (h.2 r hr)
  refine⟨yJ (h.2 r hr) (by omega) (by omega), ?_, ?_⟩
  ·show k≤k+1+1+1*((rR r 2).length:Int)
   omega
  ·show k+1+1+1*((rR r 2).length:Int)≤k+16777224
   omega) h0 (by omega)
 exact⟨h2,h3,by show (R7 sw a k).2≤_;omega⟩
def ya (k_:Int→α) (a:Rows) (oP:Int→Int→α) (rj i:Int):α:=
 let z0:Int:=nS ((nS (rj+1))+1)
 let z1:Int:=ri (rR (nth a (Int.toNat i)) 2) z0
 bif decide (i<len a) then
  bif Ei true (idx i a) then
   bif (rI (nth a (Int.toNat i)) 0) != rj then k_ (-1)
   else bif Ei true (idx i a) then
     bif (rI (nth a (Int.toNat i)) 1) != (nS (rj+1)) then k_ (-1)
     else bif Ei (Ei true (idx i a)) (PK rO 1 (rR (nth a (Int.toNat i)) 2) z0) then
       bif decide (z1<0) then k_ (-1)
       else oP z1 (nS (i+1))
      else ke
    else ke
  else ke
 else k_ rj
def x_ (k_:Int→α) (N:Nat) (a:Rows) (m_:Nat):Int→Int→α:=
 Nat.rec (motive:=fun _=>Int→Int→α) (fun _ _=>ke) (fun _ oP=>ya ke k_ a oP) m_
theorem Te (k_:Int→α) (N:Nat) (a:Rows) (m_:Nat):x_ ke k_ N a (m_+1)=ya ke k_ a (x_ ke k_ N a m_):=rfl
def Qp {α:Type} (ke:α) (k_:Int→α) (l0:Int→Int→α) (a:Rows) (k:Int):α:=
 l0 k 0
def YX (k_:Int→α) (N:Nat) (a:Rows) (k:Int):α:=Qp ke k_ (x_ ke k_ N a N) a k
def neT (a:Rows) (k:Int):Bool:=same a (R7 sw a k).1 && ym sw Sj a k
def X_ (a:Rows) (k:Int):Int:=(R7 sw a k).2
theorem nkW (k_:Int→α) (a:Rows) (k:Int) (qs:G9 (.sl [.i,.i,.sl [.i]]) (.sl a)) (aJ:neT a k=true):∃N,YX ke k_ N a k=k_ (X_ a k):=by
 obtain⟨hl,hw⟩:=oJ qs
 simp only[neT,Bool.and_eq_true] at aJ
 refine⟨a.length+1, ?_⟩
 unfold YX Qp X_
 refine nt7 a k sw Sj (x_ ke k_ (a.length+1) a) k_ aJ.2 (rA aJ.1) ?_ ?_
 ·intro n i k h hn hg
  rw[Te]
  have H9:Oz 1 (rR (nth a i) 2) (k+1+1)=true:=hg
  obtain⟨g1,g2,g3⟩:=Vz H9
  have e:rR (nth a i) 2=vp rO 1 (rR (nth a i) 2).length (k+1+1):=congrArg (fun r=>rR r 2) hn
  have hh:PK rO 1 (rR (nth a i) 2) (k+1+1)=true:=by
   simp only[PK,Bool.and_eq_true]
   exact⟨by rw[←e];exact pV _,H9⟩
  have r0:rI (nth a i) 0=k:=congrArg (fun r=>rI r 0) hn
  have r1:rI (nth a i) 1=k+1:=congrArg (fun r=>rI r 1) hn
  have w0:nS (k+1)=k+1:=nP (by omega) (by omega)
  have w1:nS (k+1+1)=k+1+1:=nP (by omega) (by omega)
  have hz:¬k+1+1+1*((rR (nth a i) 2).length:Int)<0:=by omega
  simp only[ya,pw h,nY h,oO h hl,Int.toNat_natCast,ng,nn,cond_true,hh,ri,hz,w0,w1,r0,r1,bne_self_eq_false,beq_self_eq_true,Bool.not_true,decide_false,cond_false,sw]
 ·intro n k
  rw[Te]
  simp only[ya,nX,cond_false]
theorem nwD {a:Rows} (h:Pv a=true) {k:Int} (h0:0≤k) (h1:k≤600000000000000):ym sw Sj a k=true∧neT (R7 sw a k).1 k=true∧(R7 sw (R7 sw a k).1 k).2=(R7 sw a k).2∧k≤(R7 sw a k).2∧(R7 sw a k).2≤k+281475110928384:=by
 obtain⟨h2,h3,h4⟩:=noj h h0 h1
 have hl:∀r k,(rR (sw r k).1 2).length=(rR r 2).length:=fun r k=>qg rO 1 _ _
 have hf:∀r k,sw (sw r k).1 k=sw r k:=by
  intro r k
  have e:=hl r k
  unfold sw at e ⊢
  simp only[e]
 have hg:∀r k,Sj (sw r k).1 k=Sj r k:=by
  intro r k
  simp only[Sj,Oz,sm,hl]
 obtain⟨t1,t2⟩:=nlL hf hg a k
 refine⟨h2, ?_,by rw[t1],h3,h4⟩
 simp only[neT,t1,t2,h2,pV,Bool.and_self]
def VB:List FK:=[.i,.i,.i,.i,.b,.b]
def OI:Int→List DC:=fkF VB
def Oy (a:Rows) (k:Int):Int×Rows:=(k+6*a.length,vp OI 6 a.length k)
theorem nhp (k_:Int→Rows→α) (a:Rows) (k:Int) (qs:G9 (.sl [.i,.i,.i,.i,.bool,.bool]) (.sl a)) (aJ:Oz 6 a k=true):∃N,nlJ VB ke k_ N a k=k_ (Oy a k).1 (Oy a k).2:=by
 obtain⟨hl,hw⟩:=oJ qs
 exact nvK VB 6 (by rfl) (by decide) ke k_ a k hl (fun r hr=>NX (hw r hr)) aJ
def RR (a:Rows) (k:Int):Int:=k+6*a.length
theorem nhe (k_:Int→α) (a:Rows) (k:Int) (qs:G9 (.sl [.i,.i,.i,.i,.bool,.bool]) (.sl a)) (aJ:PK OI 6 a k=true):∃N,nkf VB ke k_ N a k=k_ (RR a k):=by
 exact nvF VB 6 (by rfl) (by decide) ke k_ a k (oJ qs).1 aJ
def nhz:List FK:=[.i,.i,.i,.i,.i,.i,.i,.i,.i]
def ZZ:Int→List DC:=fkF nhz
def Ow (a:Rows) (k:Int):Int×Rows:=(k+9*a.length,vp ZZ 9 a.length k)
theorem nk7 (k_:Int→Rows→α) (a:Rows) (k:Int) (qs:G9 (.sl [.i,.i,.i,.i,.i,.i,.i,.i,.i]) (.sl a)) (aJ:Oz 9 a k=true):∃N,nlJ nhz ke k_ N a k=k_ (Ow a k).1 (Ow a k).2:=by
 obtain⟨hl,hw⟩:=oJ qs
 exact nvK nhz 9 (by rfl) (by decide) ke k_ a k hl (fun r hr=>NX (hw r hr)) aJ
def Qc (a:Rows) (k:Int):Int:=k+9*a.length
theorem nkU (k_:Int→α) (a:Rows) (k:Int) (qs:G9 (.sl [.i,.i,.i,.i,.i,.i,.i,.i,.i]) (.sl a)) (aJ:PK ZZ 9 a k=true):∃N,nkf nhz ke k_ N a k=k_ (Qc a k):=by
 exact nvF nhz 9 (by rfl) (by decide) ke k_ a k (oJ qs).1 aJ
def QL:List FK:=[.i,.i,.i,.b]
def yW:Int→List DC:=fkF QL
def zq (a:Rows) (k:Int):Int×Rows:=(k+4*a.length,vp yW 4 a.length k)
theorem nfj (k_:Int→Rows→α) (a:Rows) (k:Int) (qs:G9 (.sl [.i,.i,.i,.bool]) (.sl a)) (aJ:Oz 4 a k=true):∃N,nlJ QL ke k_ N a k=k_ (zq a k).1 (zq a k).2:=by
 obtain⟨hl,hw⟩:=oJ qs
 exact nvK QL 4 (by rfl) (by decide) ke k_ a k hl (fun r hr=>NX (hw r hr)) aJ
def ON (a:Rows) (k:Int):Int:=k+4*a.length
theorem ne_ (k_:Int→α) (a:Rows) (k:Int) (qs:G9 (.sl [.i,.i,.i,.bool]) (.sl a)) (aJ:PK yW 4 a k=true):∃N,nkf QL ke k_ N a k=k_ (ON a k):=by
 exact nvF QL 4 (by rfl) (by decide) ke k_ a k (oJ qs).1 aJ
def Ux {α:Type} (k_:Bool→α) (n low high:Int):α:=
 k_ (bif decide (low≤n) then decide (n≤high) else false)
def nh (n low high:Int):Bool:=Ux id n low high
theorem nc4 {α:Type} (k_:Bool→α) (n low high:Int):Ux k_ n low high=k_ (nh n low high):=by
 rfl
def y6 (k_:Bool→α) (x:Rows) (oy ui:Int) (tw:Rows) (oP:Int→α) (oN:Int):α:=
 let z0:Bool:= !(nh (rI (nth x (Int.toNat oN)) 0) 0 4095)
 bif decide (oN<oy) then
  bif Ei true (idx oN x) then
   bif L1 z0 true (L1 (decide (0<oN)) (Ei true (idx (nS (oN - 1)) tw)) true) then
    bif bif z0 then true else bif decide (0<oN) then decide (rI (nth x (Int.toNat oN)) 0≤rI (nth tw (Int.toNat (nS (oN - 1)))) 0) else false then k_ false
    else oP (nS (oN+1))
   else ke
  else ke
 else k_ (bif nh ui 0 281474976710654 then decide (len tw≤8) else false)
def y5 (k_:Bool→α) (N:Nat) (x:Rows) (oy ui:Int) (tw:Rows) (m_:Nat):Int→α:=
 Nat.rec (motive:=fun _=>Int→α) (fun _=>ke) (fun _ oP=>y6 ke k_ x oy ui tw oP) m_
theorem Uc (k_:Bool→α) (N:Nat) (x:Rows) (oy ui:Int) (tw:Rows) (m_:Nat):y5 ke k_ N x oy ui tw (m_+1)=y6 ke k_ x oy ui tw (y5 ke k_ N x oy ui tw m_):=rfl
def Sl {α:Type} (ke:α) (k_:Bool→α) (l0:Rows→Int→Int→Rows→Int→α) (f:nF):α:=
 l0 f.pE (len f.pE) f.Wj f.pE 0
def nay (k_:Bool→α) (N:Nat) (f:nF):α:=Sl ke k_ (fun x oy ui tw=>y5 ke k_ N x oy ui tw N) f
def vI (f:nF):Bool:=bif rh (fun i r=>bif !(nh (rI r 0) 0 4095) then true else bif decide ((0:Int)<(i:Int)) then decide (rI r 0≤rI (nth f.pE (Int.toNat (nS ((i:Int) - 1)))) 0) else false) f.pE 0 then false else bif nh f.Wj 0 281474976710654 then decide (len f.pE≤8) else false
theorem nmF (k_:Bool→α) (f:nF) (h_f:kc nF.ct f.enc):∃N,nay ke k_ N f=k_ (vI f):=by
 obtain⟨hl,_⟩:=oJ (nF.nrE h_f)
 refine⟨f.pE.length+1, ?_⟩
 unfold nay Sl
 refine (rb f.pE (y5 ke k_ (f.pE.length+1) f.pE (len f.pE) f.Wj f.pE) (fun i r c=>bif bif !(nh (rI r 0) 0 4095) then true else bif decide ((0:Int)<(i:Int)) then decide (rI r 0≤rI (nth f.pE (Int.toNat (nS ((i:Int) - 1)))) 0) else false then k_ false else c) (k_ (bif nh f.Wj 0 281474976710654 then decide (len f.pE≤8) else false)) ?_ ?_).trans ?_
 ·intro n i h
  have hp:decide ((0:Int)<(i:Int))=true→idx (nS ((i:Int) - 1)) f.pE=true:=by
   intro h0
   have h0:=of_decide_eq_true h0
   rw[nP (by omega) (by omega),show (i:Int) - 1=((i - 1:Nat):Int) by omega]
   exact nY (by omega)
  rw[Uc]
  simp only[y6,pw h,nY h,oO h hl,Int.toNat_natCast,ng,nn,cond_true]
  exact nwq (Xj (fun _=>rfl) (fun _=>Xj (fun h0=>hp h0) (fun _=>rfl)))
 ·intro n
  rw[Uc]
  simp only[y6,nX,cond_false]
 ·refine (yY (fun i r=>bif !(nh (rI r 0) 0 4095) then true else bif decide ((0:Int)<(i:Int)) then decide (rI r 0≤rI (nth f.pE (Int.toNat (nS ((i:Int) - 1)))) 0) else false) _ _ f.pE 0).trans ?_
  exact Ka rfl rfl
def zB (k_:Bool→α) (ui:Int) (tw:Rows) (oP:Int→α) (k:Int):α:=
 let z0:Bool:= !(nh (rI (nth tw (Int.toNat k)) 0) 0 4095)
 bif decide (k<len tw) then
  bif L1 z0 (Ei true (idx k tw)) (L1 (decide (0<k)) (Ei (Ei (Ei true (idx k tw)) (idx k tw)) (idx (nS (k - 1)) tw)) (Ei true (idx k tw))) then
   bif bif z0 then true else bif decide (0<k) then decide (rI (nth tw (Int.toNat k)) 0≤rI (nth tw (Int.toNat (nS (k - 1)))) 0) else false then k_ false
   else oP (nS (k+1))
  else ke
 else k_ (bif nh ui 0 281474976710654 then decide (len tw≤8) else false)
def zA (k_:Bool→α) (N:Nat) (ui:Int) (tw:Rows) (m_:Nat):Int→α:=
 Nat.rec (motive:=fun _=>Int→α) (fun _=>ke) (fun _ oP=>zB ke k_ ui tw oP) m_
theorem VF (k_:Bool→α) (N:Nat) (ui:Int) (tw:Rows) (m_:Nat):zA ke k_ N ui tw (m_+1)=zB ke k_ ui tw (zA ke k_ N ui tw m_):=rfl
def SK {α:Type} (ke:α) (k_:Bool→α) (l0:Int→Rows→Int→α) (f:nF):α:=
 l0 f.Wj f.pE 0
def nb0 (k_:Bool→α) (N:Nat) (f:nF):α:=SK ke k_ (fun ui tw=>zA ke k_ N ui tw N) f
theorem nou (k_:Bool→α) (f:nF) (h_f:kc nF.ct f.enc):∃N,nb0 ke k_ N f=k_ (vI f):=by
 obtain⟨hl,_⟩:=oJ (nF.nrE h_f)
 refine⟨f.pE.length+1, ?_⟩
 unfold nb0 SK
 refine (rb f.pE (zA ke k_ (f.pE.length+1) f.Wj f.pE) (fun i r c=>bif bif !(nh (rI r 0) 0 4095) then true else bif decide ((0:Int)<(i:Int)) then decide (rI r 0≤rI (nth f.pE (Int.toNat (nS ((i:Int) - 1)))) 0) else false then k_ false else c) (k_ (bif nh f.Wj 0 281474976710654 then decide (len f.pE≤8) else false)) ?_ ?_).trans ?_
 ·intro n i h
  have hp:decide ((0:Int)<(i:Int))=true→idx (nS ((i:Int) - 1)) f.pE=true:=by
   intro h0
   have h0:=of_decide_eq_true h0
   rw[nP (by omega) (by omega),show (i:Int) - 1=((i - 1:Nat):Int) by omega]
   exact nY (by omega)
  rw[VF]
  simp only[zB,pw h,nY h,oO h hl,Int.toNat_natCast,ng,nn,cond_true]
  exact nwq (Xj (fun _=>rfl) (fun _=>Xj (fun h0=>hp h0) (fun _=>rfl)))
 ·intro n
  rw[VF]
  simp only[zB,nX,cond_false]
 ·refine (yY (fun i r=>bif !(nh (rI r 0) 0 4095) then true else bif decide ((0:Int)<(i:Int)) then decide (rI r 0≤rI (nth f.pE (Int.toNat (nS ((i:Int) - 1)))) 0) else false) _ _ f.pE 0).trans ?_
  exact Ka rfl rfl
def wI {α:Type} (k_:Bool→α) (g:nA):α:=
 bif bif !(nh g.ox 0 65535) then true else bif !(nh g.ov 0 65535) then true else decide (320<len g.Body) then k_ false
 else bif g.Kind==6 then k_ (bif nh g.Seq 0 4294967295 then bif nh g.Ack 0 4294967295 then bif nh g.Flags 0 31 then nh g.uF 0 65535 else false else false else false)
 else bif g.Kind==17 then k_ (bif g.Seq==0 then bif g.Ack==0 then bif g.Flags==0 then g.uF==0 else false else false else false)
 else k_ false
def sn (g:nA):Bool:=wI id g
theorem nko {α:Type} (k_:Bool→α) (g:nA):wI k_ g=k_ (sn g):=by
 exact Ka rfl (Ka rfl (Ka rfl rfl))
def ZQ {α:Type} (k_:Bool→α) (g:nA):α:=
 bif bif !(nh g.ox 0 65535) then true else bif !(nh g.ov 0 65535) then true else decide (320<len g.Body) then k_ false
 else bif g.Kind==17 then k_ (bif g.Seq==0 then bif g.Ack==0 then bif g.Flags==0 then g.uF==0 else false else false else false)
 else k_ (bif g.Kind==6 then bif nh g.Seq 0 4294967295 then bif nh g.Ack 0 4294967295 then bif nh g.Flags 0 31 then nh g.uF 0 65535 else false else false else false else false)
theorem nlX {α:Type} (k_:Bool→α) (g:nA):ZQ k_ g=k_ (sn g):=by
 unfold ZQ sn wI
 refine Ka rfl ?_
 by_cases h6:g.Kind=6
 ·have h17:(g.Kind==17)=false:=by rw[h6];rfl
  have h6':(g.Kind==6)=true:=by rw[h6];rfl
  rw[h17,h6']
  rfl
 ·have h6':(g.Kind==6)=false:=by simpa using h6
  rw[h6']
  cases (g.Kind==17)<;>rfl
def Yp {α:Type} (k_:Bool→α) (flags:Int):α:=
 k_ (bif (bits .and .i64 flags 16) != 0 then (bits .andNot .i64 flags 25)==0 else false)
def TY (flags:Int):Bool:=Yp id flags
theorem nkw {α:Type} (k_:Bool→α) (flags:Int):Yp k_ flags=k_ (TY flags):=by
 rfl
def O3 {α:Type} (k_:Bool→α) (p:nC):α:=
 k_ (bif nh p.NY 0 281474976710655 then bif nh p.N0 0 281474976710655 then bif nh p.PJ (-1) 4095 then bif nh p.Tos 0 255 then bif nh p.Ttl 0 255 then bif nh p.Id 0 65535 then bif nh p.pZ 0 4294967295 then bif nh p.qh 0 4294967295 then bif sn p.qO then bif decide (len p.qO.Body≤128) then true else bif p.qO.Kind==6 then TY p.qO.Flags else false else false else false else false else false else false else false else false else false else false)
def yU (p:nC):Bool:=O3 id p
theorem npC {α:Type} (k_:Bool→α) (p:nC):O3 k_ p=k_ (yU p):=by
 rfl
def neb {α:Type} (k_:Bool→α) (p:nC):α:=
 bif bif !(nh p.NY 0 281474976710655) then true else bif !(nh p.N0 0 281474976710655) then true else bif !(nh p.PJ (-1) 4095) then true else bif !(nh p.Tos 0 255) then true else bif !(nh p.Ttl 0 255) then true else bif !(nh p.Id 0 65535) then true else bif !(nh p.pZ 0 4294967295) then true else bif !(nh p.qh 0 4294967295) then true else !(sn p.qO) then k_ false
 else k_ (bif bif p.qO.Kind==6 then (bits .andNot .i64 p.qO.Flags 9)==16 else false then true else decide (len p.qO.Body≤128))
theorem ntN {f:Int} (h:nh f 0 31=true):((bits .andNot .i64 f 9)==16)=TY f:=by
 have key:∀n:Fin 32,((bits .andNot .i64 ((n.val:Nat):Int) 9)==16)=TY ((n.val:Nat):Int):=by decide+kernel
 have h0:0≤f∧f≤31:=by
  unfold nh Ux at h
  by_cases h1:0≤f
  ·by_cases h2:f≤31
   ·exact⟨h1,h2⟩
   ·simp [h1,h2] at h
  ·simp [h1] at h
 have:=key ⟨f.toNat,by omega⟩
 simp only at this
 rw[show ((f.toNat:Nat):Int)=f by omega] at this
 exact this
theorem nvM {g:nA} (h:sn g=true) (h6:(g.Kind==6)=true):nh g.Flags 0 31=true:=by
 unfold sn wI at h
 rw[h6] at h
 cases hb:nh g.Flags 0 31
 ·rw[hb] at h
  revert h
  cases (bif !(nh g.ox 0 65535) then true else bif !(nh g.ov 0 65535) then true else decide (320<len g.Body))<;>cases nh g.Seq 0 4294967295<;>cases nh g.Ack 0 4294967295<;>simp
 ·rfl
theorem nq8 {α:Type} (k_:Bool→α) (p:nC):neb k_ p=k_ (yU p):=by
 unfold neb yU O3
 cases nh p.NY 0 281474976710655
 ·rfl
 cases nh p.N0 0 281474976710655
 ·rfl
 cases nh p.PJ (-1) 4095
 ·rfl
 cases nh p.Tos 0 255
 ·rfl
 cases nh p.Ttl 0 255
 ·rfl
 cases nh p.Id 0 65535
 ·rfl
 cases nh p.pZ 0 4294967295
 ·rfl
 cases nh p.qh 0 4294967295
 ·rfl
 cases hs:sn p.qO
 ·rfl
 cases h6:(p.qO.Kind==6)
 ·cases decide (len p.qO.Body≤128)<;>rfl
 ·rw[ntN (nvM hs h6)]
  cases TY p.qO.Flags<;>cases decide (len p.qO.Body≤128)<;>rfl
def wu (k_:Int→α) (domain pc:Int) (na:Rows) (oy:Int) (oP:Int→α) (oN:Int):α:=
 bif decide (oN<oy) then
  bif Ei true (idx oN na) then
   bif bif (rI (nth na (Int.toNat oN)) 0)==domain then (rI (nth na (Int.toNat oN)) 1)==pc else false then k_ oN
   else oP (nS (oN+1))
  else ke
 else k_ (-1)
def wq (k_:Int→α) (N:Nat) (domain pc:Int) (na:Rows) (oy:Int) (m_:Nat):Int→α:=
 Nat.rec (motive:=fun _=>Int→α) (fun _=>ke) (fun _ oP=>wu ke k_ domain pc na oy oP) m_
theorem PT (k_:Int→α) (N:Nat) (domain pc:Int) (na:Rows) (oy:Int) (m_:Nat):wq ke k_ N domain pc na oy (m_+1)=wu ke k_ domain pc na oy (wq ke k_ N domain pc na oy m_):=rfl
def N9 {α:Type} (ke:α) (k_:Int→α) (l0:Int→Int→α) (na:Rows) (domain pc:Int):α:=
 l0 (len na) 0
def UG (k_:Int→α) (N:Nat) (na:Rows) (domain pc:Int):α:=N9 ke k_ (fun oy=>wq ke k_ N domain pc na oy N) na domain pc
def tq (na:Rows) (domain pc:Int):Int:=findIdx (fun _ r=>bif (rI r 0)==domain then (rI r 1)==pc else false) na 0
theorem ngZ (k_:Int→α) (na:Rows) (domain pc:Int) (pP:G9 (.sl [.i,.i,.i,.bool]) (.sl na)):∃N,UG ke k_ N na domain pc=k_ (tq na domain pc):=by
 obtain⟨hl,_⟩:=oJ pP
 refine⟨na.length+1, ?_⟩
 unfold UG N9
 refine (rb na (wq ke k_ (na.length+1) domain pc na (len na)) (fun i r c=>bif bif (rI r 0)==domain then (rI r 1)==pc else false then k_ (i:Int) else c) (k_ (-1)) ?_ ?_).trans ?_
 ·intro n i h
  rw[PT]
  simp only[wu,pw h,nY h,oO h hl,Int.toNat_natCast,ng,nn,cond_true]
 ·intro n
  rw[PT]
  simp only[wu,nX,cond_false]
 ·exact Qb (fun i r=>bif (rI r 0)==domain then (rI r 1)==pc else false) k_ na 0
def w6 (k_:Bool→α) (na x:Rows) (oy:Int) (oP:Int→α) (oN:Int):α:=
 bif decide (oN<oy) then
  bif Ei true (idx oN x) then
   bif bif !(nh (rI (nth x (Int.toNat oN)) 0) 0 7) then true else bif !(nh (rI (nth x (Int.toNat oN)) 1) 0 1023) then true else bif !(nh (rI (nth x (Int.toNat oN)) 2) 0 63) then true else (tq na (rI (nth x (Int.toNat oN)) 0) (rI (nth x (Int.toNat oN)) 1)) != oN then k_ false
   else oP (nS (oN+1))
  else ke
 else k_ (decide (len na≤96))
def w5 (k_:Bool→α) (N:Nat) (na x:Rows) (oy:Int) (m_:Nat):Int→α:=
 Nat.rec (motive:=fun _=>Int→α) (fun _=>ke) (fun _ oP=>w6 ke k_ na x oy oP) m_
theorem RW (k_:Bool→α) (N:Nat) (na x:Rows) (oy:Int) (m_:Nat):w5 ke k_ N na x oy (m_+1)=w6 ke k_ na x oy (w5 ke k_ N na x oy m_):=rfl
def OX {α:Type} (ke:α) (k_:Bool→α) (l0:Rows→Int→Int→α) (na:Rows):α:=
 l0 na (len na) 0
def Wr (k_:Bool→α) (N:Nat) (na:Rows):α:=OX ke k_ (fun x oy=>w5 ke k_ N na x oy N) na
def xj (r:List DC):Bool:=bif !(nh (rI r 0) 0 7) then true else bif !(nh (rI r 1) 0 1023) then true else !(nh (rI r 2) 0 63)
def pD (na:Rows):Bool:=bif decide (96<len na) then false else bif rh (fun i r=>bif xj r then true else yt (fun j=>bif (rI (nth na j) 0)==(rI r 0) then (rI (nth na j) 1)==(rI r 1) else false) i 0) na 0 then false else true
theorem nip (k_:Bool→α) (na:Rows) (pP:G9 (.sl [.i,.i,.i,.bool]) (.sl na)):∃N,Wr ke k_ N na=k_ (pD na):=by
 obtain⟨hl,_⟩:=oJ pP
 refine⟨na.length+1, ?_⟩
 unfold Wr OX
 refine (rb na (w5 ke k_ (na.length+1) na na (len na)) (fun i r c=>bif (bif xj r then true else (tq na (rI r 0) (rI r 1)) != (i:Int)) then k_ false else c) (k_ (decide (len na≤96))) ?_ ?_).trans ?_
 ·intro n i h
  rw[RW]
  simp only[w6,pw h,nY h,oO h hl,Int.toNat_natCast,ng,nn,cond_true]
  unfold xj
  cases nh (rI (nth na i) 0) 0 7<;>cases nh (rI (nth na i) 1) 0 1023<;>cases nh (rI (nth na i) 2) 0 63<;>rfl
 ·intro n
  rw[RW]
  simp only[w6,nX,cond_false]
 ·refine (yY (fun i r=>bif xj r then true else (tq na (rI r 0) (rI r 1)) != (i:Int)) _ _ na 0).trans ?_
  have e:rh (fun i r=>bif xj r then true else (tq na (rI r 0) (rI r 1)) != (i:Int)) na 0=rh (fun i r=>bif xj r then true else yt (fun j=>bif (rI (nth na j) 0)==(rI r 0) then (rI (nth na j) 1)==(rI r 1) else false) i 0) na 0:=by
   apply nh9
   intro i hi
   rw[Nat.zero_add]
   have hf:=ngD (fun _ r=>bif (rI r 0)==(rI (nth na i) 0) then (rI r 1)==(rI (nth na i) 1) else false) na 0 i hi (by simp)
   rw[Nat.zero_add] at hf
   have hf:((tq na (rI (nth na i) 0) (rI (nth na i) 1)) != (i:Int))=_:=hf
   rw[hf]
  rw[e]
  unfold pD
  by_cases h9:96<len na
  ·simp only[decide_eq_true h9,cond_true,show decide (len na≤96)=false from decide_eq_false (by omega)]
   cases rh (fun i r=>bif xj r then true else yt (fun j=>bif (rI (nth na j) 0)==(rI r 0) then (rI (nth na j) 1)==(rI r 1) else false) i 0) na 0<;>rfl
  ·simp only[decide_eq_false h9,cond_false,show decide (len na≤96)=true from decide_eq_true (by omega)]
   exact Ka rfl rfl
def ve (k_:Bool→α) (l1:Int→Int→Int→Int→α) (na:Rows) (oP:Int→α) (k:Int):α:=
 bif decide (k<len na) then
  bif Ei true (idx k na) then
   bif bif !(nh (rI (nth na (Int.toNat k)) 0) 0 7) then true else bif !(nh (rI (nth na (Int.toNat k)) 1) 0 1023) then true else !(nh (rI (nth na (Int.toNat k)) 2) 0 63) then k_ false
   else l1 k (rI (nth na (Int.toNat k)) 0) (rI (nth na (Int.toNat k)) 1) 0
  else ke
 else k_ true
def vf (k_:Bool→α) (oP:Int→α) (na:Rows) (k x oy:Int) (ih1:Int→α) (i:Int):α:=
 let z0:Bool:=(rI (nth na (Int.toNat i)) 0)==x
 bif decide (i<k) then
  bif L1 z0 (Ei (Ei true (idx i na)) (idx i na)) (Ei true (idx i na)) then
   bif bif z0 then (rI (nth na (Int.toNat i)) 1)==oy else false then k_ false
   else ih1 (nS (i+1))
  else ke
 else oP (nS (k+1))
def re (k_:Bool→α) (N:Nat) (oP:Int→α) (na:Rows) (k x oy:Int) (m_:Nat):Int→α:=
 Nat.rec (motive:=fun _=>Int→α) (fun _=>ke) (fun _ ih1=>vf ke k_ oP na k x oy ih1) m_
theorem Sa (k_:Bool→α) (N:Nat) (oP:Int→α) (na:Rows) (k x oy:Int) (m_:Nat) (i:Int):re ke k_ N oP na k x oy (m_+1) i=vf ke k_ oP na k x oy (re ke k_ N oP na k x oy m_) i:=rfl
def tJ (k_:Bool→α) (N:Nat) (na:Rows) (m_:Nat):Int→α:=
 Nat.rec (motive:=fun _=>Int→α) (fun _=>ke) (fun _ oP=>ve ke k_ (fun k x oy=>re ke k_ N oP na k x oy N) na oP) m_
theorem R_ (k_:Bool→α) (N:Nat) (na:Rows) (m_:Nat) (k:Int):tJ ke k_ N na (m_+1) k=ve ke k_ (fun k x oy=>re ke k_ N (tJ ke k_ N na m_) na k x oy N) na (tJ ke k_ N na m_) k:=rfl
def Xq {α:Type} (ke:α) (k_:Bool→α) (l0:Int→α) (na:Rows):α:=
 bif decide (96<len na) then k_ false
 else l0 0
def PC (k_:Bool→α) (N:Nat) (na:Rows):α:=Xq ke k_ (tJ ke k_ N na N) na
theorem njU (k_:Bool→α) (na:Rows) (pP:G9 (.sl [.i,.i,.i,.bool]) (.sl na)):∃N,PC ke k_ N na=k_ (pD na):=by
 obtain⟨hl,_⟩:=oJ pP
 refine⟨na.length+1, ?_⟩
 unfold PC Xq pD
 refine Ka rfl ?_
 have inner:∀(ih:Int→α) (i:Nat),i<na.length→re ke k_ (na.length+1) ih na (i:Int) (rI (nth na i) 0) (rI (nth na i) 1) (na.length+1) 0=bif yt (fun j=>bif (rI (nth na j) 0)==(rI (nth na i) 0) then (rI (nth na j) 1)==(rI (nth na i) 1) else false) i 0 then k_ false else ih ((i:Int)+1):=by
  intro ih i hi
  have hw:nS ((i:Int)+1)=(i:Int)+1:=oO hi hl
  have:=njM (σ:=Unit) i (fun n j _=>re ke k_ (na.length+1) ih na (i:Int) (rI (nth na i) 0) (rI (nth na i) 1) n j) (fun j c s=>bif (bif (rI (nth na j) 0)==(rI (nth na i) 0) then (rI (nth na j) 1)==(rI (nth na i) 1) else false) then k_ false else c s) (fun _=>ih ((i:Int)+1)) ?_ ?_ (na.length+1) () (by omega)
  ·exact this.trans (no0 (fun j=>bif (rI (nth na j) 0)==(rI (nth na i) 0) then (rI (nth na j) 1)==(rI (nth na i) 1) else false) (k_ false) (ih ((i:Int)+1)) i 0)
  ·intro n j _ hj
   show re ke k_ (na.length+1) ih na (i:Int) (rI (nth na i) 0) (rI (nth na i) 1) (n+1) (j:Int)=_
   rw[Sa]
   have h1:decide ((j:Int)<(i:Int))=true:=decide_eq_true (by omega)
   have h2:idx (j:Int) na=true:=nY (by omega)
   have h3:nS ((j:Int)+1)=(j:Int)+1:=nP (by omega) (by omega)
   simp only[vf,h1,h2,h3,Int.toNat_natCast,ng,nn,yK,cond_true]
  ·intro n _
   show re ke k_ (na.length+1) ih na (i:Int) (rI (nth na i) 0) (rI (nth na i) 1) (n+1) (i:Int)=_
   rw[Sa]
   have h1:decide ((i:Int)<(i:Int))=false:=decide_eq_false (by omega)
   simp only[vf,h1,hw,cond_false]
 refine (xi na (tJ ke k_ (na.length+1) na) (fun i r c=>bif (bif xj r then true else yt (fun j=>bif (rI (nth na j) 0)==(rI r 0) then (rI (nth na j) 1)==(rI r 1) else false) i 0) then k_ false else c) (k_ true) ?_ ?_ (na.length+1) (by omega)).trans ?_
 ·intro n i h
  rw[R_]
  simp only[ve,pw h,nY h,Int.toNat_natCast,ng,nn,cond_true,yK,inner _ i h]
  show (bif xj (nth na i) then k_ false else _)=_
  cases xj (nth na i)<;>rfl
 ·intro n
  rw[R_]
  simp only[ve,nX,cond_false]
 ·refine (yY (fun i r=>bif xj r then true else yt (fun j=>bif (rI (nth na j) 0)==(rI r 0) then (rI (nth na j) 1)==(rI r 1) else false) i 0) _ _ na 0).trans ?_
  exact Ka rfl rfl
def UD (k_:Rows→α) (l:Rows):α:=
 bif Ei true (pY 16 [] l) then
  k_ l
 else ke
theorem ngY (k_:Rows→α) (l:Rows) (aJ:sm l=true):UD ke k_ l=k_ (oD l):=by
 unfold UD
 rw[qy aJ (show 16≤8388608 by omega)]
 rfl
def WB (k_:nc→α) (m:nc):α:=
 bif Ei true (sm m.nL) then
  k_ (⟨oD m.nL⟩:nc)
 else ke
def vW (m:nc):Bool:=sm m.nL
theorem niB (k_:nc→α) (m:nc) (aJ:vW m=true):WB ke k_ m=k_ (oD m):=by
 have h:sm m.nL=true:=aJ
 unfold WB
 simp only[h,ng,cond_true]
 rfl
def y8 (k_:Bool→α) (x:Rows) (oy:Int) (rz:Rows) (oP:Int→α) (oN:Int):α:=
 bif decide (oN<oy) then
  bif Ei true (idx oN x) then
   bif (len (rS (nth x (Int.toNat oN)) 0)) != 128 then k_ false
   else oP (nS (oN+1))
  else ke
 else k_ (decide (len rz≤64))
def y7 (k_:Bool→α) (N:Nat) (x:Rows) (oy:Int) (rz:Rows) (m_:Nat):Int→α:=
 Nat.rec (motive:=fun _=>Int→α) (fun _=>ke) (fun _ oP=>y8 ke k_ x oy rz oP) m_
theorem Uh (k_:Bool→α) (N:Nat) (x:Rows) (oy:Int) (rz:Rows) (m_:Nat):y7 ke k_ N x oy rz (m_+1)=y8 ke k_ x oy rz (y7 ke k_ N x oy rz m_):=rfl
def So {α:Type} (ke:α) (k_:Bool→α) (l0:Rows→Int→Rows→Int→α) (m:nc):α:=
 l0 m.nL (len m.nL) m.nL 0
def naH (k_:Bool→α) (N:Nat) (m:nc):α:=So ke k_ (fun x oy rz=>y7 ke k_ N x oy rz N) m
def qb (m:nc):Bool:=bif rh (fun _ r=>(len (rS r 0)) != 128) m.nL 0 then false else decide (len m.nL≤64)
theorem nmM (k_:Bool→α) (m:nc) (T6:kc nc.ct m.enc):∃N,naH ke k_ N m=k_ (qb m):=by
 obtain⟨hl,_⟩:=oJ (nc.wR T6)
 refine⟨m.nL.length+1, ?_⟩
 unfold naH So qb
 refine (rb m.nL (y7 ke k_ (m.nL.length+1) m.nL (len m.nL) m.nL) (fun i r c=>bif (len (rS r 0)) != 128 then k_ false else c) (k_ (decide (len m.nL≤64))) ?_ ?_).trans ?_
 ·intro n i h
  rw[Uh]
  simp only[y8,pw h,nY h,oO h hl,Int.toNat_natCast,ng,nn,cond_true]
 ·intro n
  rw[Uh]
  simp only[y8,nX,cond_false]
 ·refine (yY (fun _ r=>(len (rS r 0)) != 128) _ _ m.nL 0).trans ?_
  exact Ka rfl rfl
def zE (k_:Bool→α) (rz:Rows) (oP:Int→α) (k:Int):α:=
 bif decide (k<len rz) then
  bif Ei true (idx k rz) then
   bif (len (rS (nth rz (Int.toNat k)) 0)) != 128 then k_ false
   else oP (nS (k+1))
  else ke
 else k_ (decide (len rz≤64))
def zD (k_:Bool→α) (N:Nat) (rz:Rows) (m_:Nat):Int→α:=
 Nat.rec (motive:=fun _=>Int→α) (fun _=>ke) (fun _ oP=>zE ke k_ rz oP) m_
theorem VM (k_:Bool→α) (N:Nat) (rz:Rows) (m_:Nat):zD ke k_ N rz (m_+1)=zE ke k_ rz (zD ke k_ N rz m_):=rfl
def SN {α:Type} (ke:α) (k_:Bool→α) (l0:Rows→Int→α) (m:nc):α:=
 l0 m.nL 0
def nb6 (k_:Bool→α) (N:Nat) (m:nc):α:=SN ke k_ (fun rz=>zD ke k_ N rz N) m
theorem noB (k_:Bool→α) (m:nc) (T6:kc nc.ct m.enc):∃N,nb6 ke k_ N m=k_ (qb m):=by
 obtain⟨hl,_⟩:=oJ (nc.wR T6)
 refine⟨m.nL.length+1, ?_⟩
 unfold nb6 SN qb
 refine (rb m.nL (zD ke k_ (m.nL.length+1) m.nL) (fun i r c=>bif (len (rS r 0)) != 128 then k_ false else c) (k_ (decide (len m.nL≤64))) ?_ ?_).trans ?_
 ·intro n i h
  rw[VM]
  simp only[zE,pw h,nY h,oO h hl,Int.toNat_natCast,ng,nn,cond_true]
 ·intro n
  rw[VM]
  simp only[zE,nX,cond_false]
 ·refine (yY (fun _ r=>(len (rS r 0)) != 128) _ _ m.nL 0).trans ?_
  exact Ka rfl rfl
def Sx {α:Type} (k_:Bool→α) (n:Int):α:=
 k_ (bif n==2 then true else bif n==4 then true else bif n==8 then true else n==16)
def uc (n:Int):Bool:=Sx id n
theorem na_ {α:Type} (k_:Bool→α) (n:Int):Sx k_ n=k_ (uc n):=by
 rfl
def Yr {α:Type} (k_:Bool→α) (n:Int):α:=
 k_ (bif n==1 then true else bif n==2 then true else bif n==4 then true else bif n==8 then true else n==16)
def ZT (n:Int):Bool:=Yr id n
theorem Yq {α:Type} (k_:Bool→α) (n:Int):Yr k_ n=k_ (ZT n):=by
 rfl
def zY (k_:Int→α) (x n:Int):α:=
 bif Ei true (!(n==0)) then
  k_ (bif decide (Int.tmod x n<0) then nS ((Int.tmod x n)+n) else Int.tmod x n)
 else ke
def xK (x n:Int):Bool:=zY false (fun _=>true) x n
def SG (x n:Int):Int:=(zY none (fun r0=>some (r0)) x n).getD 0
theorem nrU (k_:Int→α) (x n:Int) (aJ:xK x n=true):zY ke k_ x n=k_ (SG x n):=by
 exact ub (K:=fun r:Int=>k_ r) (oC pU) aJ
def naN (k_:Int→α) (r:nE):α:=
 let z0:Int:=nS ((SG r.qQ (nS (2*r.nG))) - (SG r.Head (nS (2*r.nG))))
 bif !(uc r.nG) then k_ 0
 else bif Ei (Ei (Ei true (xK r.qQ (nS (2*r.nG)))) (xK r.Head (nS (2*r.nG)))) (xK z0 (nS (2*r.nG))) then
   k_ (SG z0 (nS (2*r.nG)))
  else ke
theorem ncA (k:Nat) (hk:k≤62) (a:Int):bits .and .i64 a ((2 ^ k - 1:Nat):Int)=a % ((2 ^ k:Nat):Int):=by
 have hp:2 ^ k≤2 ^ 62:=Nat.pow_le_pow_right (by decide) hk
 have h62:(2:Nat) ^ 62=4611686018427387904:=by decide
 have hd:2 ^ k ∣ (18446744073709551616:Nat):=by
  rw[show (18446744073709551616:Nat)=2 ^ 64 by decide]
  exact Nat.pow_dvd_pow 2 (by omega)
 have hc:(BitVec.ofInt 64 ((2 ^ k - 1:Nat):Int)).toNat=2 ^ k - 1:=by
  rw[BitVec.ofInt_natCast,BitVec.toNat_ofNat]
  exact Nat.mod_eq_of_lt (by omega)
 have hn:(BitVec.ofInt 64 a &&& BitVec.ofInt 64 ((2 ^ k - 1:Nat):Int)).toNat=(a % 18446744073709551616).toNat % 2 ^ k:=by
  rw[BitVec.toNat_and,hc,Nat.and_two_pow_sub_one_eq_mod,BitVec.toNat_ofInt]
  rfl
 have cr:(a % 18446744073709551616).toNat % 2 ^ k<2 ^ k:=Nat.mod_lt _ (Nat.pos_of_ne_zero (by intro h;have:=Nat.two_pow_pos k;omega))
 have h63:(((BitVec.ofInt 64 a &&& BitVec.ofInt 64 ((2 ^ k - 1:Nat):Int)).toNat:Nat):Int)<2 ^ 63:=by
  rw[hn]
  have:(2:Int) ^ 63=9223372036854775808:=by decide
  rw[this]
  omega
 have e:bits .and .i64 a ((2 ^ k - 1:Nat):Int)=(((BitVec.ofInt 64 a &&& BitVec.ofInt 64 ((2 ^ k - 1:Nat):Int)).toNat:Nat):Int):=
  ns2 (((BitVec.ofInt 64 a &&& BitVec.ofInt 64 ((2 ^ k - 1:Nat):Int)).toNat:Nat):Int) (Int.natCast_nonneg _) h63
 rw[e,hn,Int.natCast_emod,Int.toNat_of_nonneg (Int.emod_nonneg _ (by decide)),Int.emod_emod_of_dvd]
 exact Int.natCast_dvd_natCast.2 hd
theorem and_3 (a:Int):bits .and .i64 a 3=a % 4:=ncA 2 (by decide) a
theorem nw9 (a:Int):bits .and .i64 a 7=a % 8:=ncA 3 (by decide) a
theorem nxc (a:Int):bits .and .i64 a 15=a % 16:=ncA 4 (by decide) a
theorem nxd (a:Int):bits .and .i64 a 31=a % 32:=ncA 5 (by decide) a
theorem yL {n:Int} (h:uc n=true):n=2∨n=4∨n=8∨n=16:=by
 unfold uc Sx at h
 by_cases h2:n=2
 ·exact .inl h2
 by_cases h4:n=4
 ·exact .inr (.inl h4)
 by_cases h8:n=8
 ·exact .inr (.inr (.inl h8))
 by_cases h16:n=16
 ·exact .inr (.inr (.inr h16))
 simp [h2,h4,h8,h16] at h
theorem QJ {x n:Int} (hx: -9223372036854775808≤x) (Co:x≤9223372036854775807) (h:0<n) (h':n≤4294967296):xK x n=true∧SG x n=x % n:=by
 have hn:(n==0)=false:=by simp;omega
 have e:SG x n=bif decide (Int.tmod x n<0) then nS ((Int.tmod x n)+n) else Int.tmod x n:=by
  unfold SG zY
  rw[hn]
  rfl
 refine⟨by unfold xK zY;rw[hn];rfl, ?_⟩
 rw[e]
 have h1:=Int.tmod_eq_emod (a:=x) (b:=n)
 have h2:=Int.emod_nonneg x (show n≠0 by omega)
 have h3:=Int.emod_lt_of_pos x h
 by_cases hl:Int.tmod x n<0
 ·rw[decide_eq_true hl,cond_true]
  split at h1
  ·omega
  ·have hna:((n.natAbs:Nat):Int)=n:=by omega
   rw[hna] at h1
   rw[nP (by omega) (by omega)]
   omega
 ·rw[decide_eq_false hl,cond_false]
  split at h1
  ·omega
  ·have hna:((n.natAbs:Nat):Int)=n:=by omega
   rw[hna] at h1
   omega
def yw (r:nE):Int:=bif uc r.nG then (r.qQ - r.Head) % (2*r.nG) else 0
theorem nmR (k_:Int→α) (r:nE) (h_r:kc nE.ct r.enc):naN ke k_ r=k_ (yw r):=by
 have ht:=vn (nE.nw7 h_r)
 have hh:=vn (nE.nw4 h_r)
 unfold naN yw
 cases hs:uc r.nG
 ·rfl
 ·have h2:nS (2*r.nG)=2*r.nG∧0<2*r.nG∧2*r.nG≤32:=by
   rcases yL hs with h | h | h | h<;>rw[h]<;>exact⟨rfl,by decide,by decide⟩
  obtain⟨h2,h3,h4⟩:=h2
  obtain⟨a1,a2⟩:=QJ ht.1 ht.2 h3 (by omega)
  obtain⟨b1,b2⟩:=QJ hh.1 hh.2 h3 (by omega)
  have n1:=Int.emod_nonneg r.qQ (show 2*r.nG≠0 by omega)
  have n2:=Int.emod_lt_of_pos r.qQ h3
  have m1:=Int.emod_nonneg r.Head (show 2*r.nG≠0 by omega)
  have m2:=Int.emod_lt_of_pos r.Head h3
  have hw:nS (r.qQ % (2*r.nG) - r.Head % (2*r.nG))=r.qQ % (2*r.nG) - r.Head % (2*r.nG):=nP (by omega) (by omega)
  obtain⟨c1,c2⟩:=QJ (x:=r.qQ % (2*r.nG) - r.Head % (2*r.nG)) (by omega) (by omega) h3 (by omega)
  simp only[h2,a1,a2,b1,b2,hw,c1,c2,ng,nn,cond_true,Bool.not_true,cond_false]
  rw[←Int.sub_emod]
def nca {α:Type} (k_:Int→α) (r:nE):α:=
 bif !(uc r.nG) then k_ 0
 else k_ (bits .and .i64 (nS (r.qQ - r.Head)) (nS ((nS (2*r.nG)) - 1)))
theorem noF {α:Type} (k_:Int→α) (r:nE):nca k_ r=k_ (yw r):=by
 unfold nca yw
 cases hs:uc r.nG
 ·rfl
 ·have key:bits .and .i64 (nS (r.qQ - r.Head)) (nS ((nS (2*r.nG)) - 1))=(r.qQ - r.Head) % (2*r.nG):=by
   rcases yL hs with h | h | h | h<;>rw[h]
   ·exact (and_3 _).trans (by rw[nac];show _=(r.qQ - r.Head) % 4;omega)
   ·exact (nw9 _).trans (by rw[nac];show _=(r.qQ - r.Head) % 8;omega)
   ·exact (nxc _).trans (by rw[nac];show _=(r.qQ - r.Head) % 16;omega)
   ·exact (nxd _).trans (by rw[nac];show _=(r.qQ - r.Head) % 32;omega)
  simp only[key,Bool.not_true,cond_false,cond_true]
def Rw {α:Type} (k_:Bool→α) (r:nE):α:=
 let z0:Int:=nS ((nS (2*r.nG)) - 1)
 k_ (bif nh r.oA 0 130944 then bif uc r.nG then bif nh r.Head 0 z0 then bif nh r.qQ 0 z0 then decide (yw r≤r.nG) else false else false else false else false)
def sR (r:nE):Bool:=Rw id r
theorem nfL {α:Type} (k_:Bool→α) (r:nE):Rw k_ r=k_ (sR r):=by
 rfl
theorem yv {r:nE} (h:sR r=true):2≤r.nG∧r.nG≤16:=by
 have hs:uc r.nG=true:=by
  cases hs:uc r.nG
  ·unfold sR Rw at h
   rw[hs] at h
   revert h
   cases nh r.oA 0 130944<;>simp
  ·rfl
 rcases yL hs with h | h | h | h<;>omega
def Ui {α:Type} (k_:Bool→α) (q:nf):α:=
 k_ (bif nh q.oA 0 130944 then bif uc q.nG then nh q.Count 0 (nS ((nS (2*q.nG)) - 1)) else false else false)
def vK (q:nf):Bool:=Ui id q
theorem ncU {α:Type} (k_:Bool→α) (q:nf):Ui k_ q=k_ (vK q):=by
 rfl
def npL {α:Type} (k_:Bool→α) (v:nx):α:=
 k_ (bif decide (1≤v.Count) then bif decide (v.yu≤v.Count) then true else decide (v.OD≤v.Time) else false)
def due (v:nx):Bool:=npL id v
theorem npJ {α:Type} (k_:Bool→α) (v:nx):npL k_ v=k_ (due v):=by
 rfl
def naX {α:Type} (k_:Bool→α) (v:nx):α:=
 let z0:Bool:=bif due v then v.P_== !v.T0 else v.P_==false
 bif bif !(nh v.yu 1 64) then true else bif !(nh v.OD 0 64) then true else bif !(nh v.Count 0 1000000) then true else !(nh v.Time 0 1000000) then k_ false
 else k_ (bif decide (0<v.Count) then z0 else bif v.Time==0 then z0 else false)
def tA (v:nx):Bool:=naX id v
theorem naW {α:Type} (k_:Bool→α) (v:nx):naX k_ v=k_ (tA v):=by
 exact Ka rfl rfl
def nmg {α:Type} (k_:Bool→α) (q:nr):α:=
 bif bif !(sR q.Ring) then true else bif !(vK q.Device) then true else bif !(vK q.Driver) then true else bif q.Device.oA != q.Driver.oA then true else bif q.Device.nG != q.Driver.nG then true else !(nh q.Tz 0 1000000000000) then k_ false
 else bif !q.TA then k_ (bif bif q.pO.nV.NY==0 then bif q.pO.nV.N0==0 then bif q.pO.nV.PJ==0 then bif q.pO.nV.Tos==0 then bif q.pO.nV.Id==0 then bif q.pO.nV.Ttl==0 then bif q.pO.nV.pZ==0 then bif q.pO.nV.qh==0 then bif bif q.pO.nV.qO.Kind==0 then bif q.pO.nV.qO.ox==0 then bif q.pO.nV.qO.ov==0 then bif q.pO.nV.qO.Seq==0 then bif q.pO.nV.qO.Ack==0 then bif q.pO.nV.qO.Flags==0 then bif q.pO.nV.qO.uF==0 then bif q.pO.nV.qO.Body==[] then true else false else false else false else false else false else false else false else false then true else false else false else false else false else false else false else false else false else false then bif q.pO.nG==0 then bif q.pO.Count==0 then true else false else false else false)
 else k_ (bif yU q.pO.nV then bif nh q.pO.nG 0 320 then nh q.pO.Count 1 320 else false else false)
def X6 (q:nr):Bool:=nmg id q
theorem nme {α:Type} (k_:Bool→α) (q:nr):nmg k_ q=k_ (X6 q):=by
 exact Ka rfl (Ka rfl rfl)
def XD {α:Type} (k_:Bool→α) (r:pN):α:=
 let z0:Bool:=bif !(nh r.pZ 0 4294967295) then true else !(nh r.noZ 0 32)
 let z1:Bool:=bif r.Action==1 then r.Queue==0 else false
 bif bif !(nh r.Priority 0 1000) then true else bif r.Kind != 0 then bif r.Kind != 6 then bif r.Kind != 17 then true else z0 else z0 else z0 then k_ false
 else bif bif decide (r.X4<0) then true else bif decide (r.ncz<r.X4) then true else bif decide (65535<r.ncz) then true else !(nh r.PJ (-2) 4095) then k_ false
 else k_ (bif r.Action==0 then bif nh r.Queue 0 3 then true else z1 else z1)
def Qa (r:pN):Bool:=XD id r
theorem nfM {α:Type} (k_:Bool→α) (r:pN):XD k_ r=k_ (Qa r):=by
 exact Ka rfl (Ka rfl rfl)
def Nv (k_:Bool→α) (na x:Rows) (oy:Int) (oP:Int→α) (oN:Int):α:=
 bif decide (oN<oy) then
  bif Ei true (idx oN x) then
   bif !(Qa (pN.nd (nth x (Int.toNat oN)) 0)) then k_ false
   else oP (nS (oN+1))
  else ke
 else k_ (decide (len na≤12))
def Nu (k_:Bool→α) (N:Nat) (na x:Rows) (oy:Int) (m_:Nat):Int→α:=
 Nat.rec (motive:=fun _=>Int→α) (fun _=>ke) (fun _ oP=>Nv ke k_ na x oy oP) m_
theorem Wx (k_:Bool→α) (N:Nat) (na x:Rows) (oy:Int) (m_:Nat):Nu ke k_ N na x oy (m_+1)=Nv ke k_ na x oy (Nu ke k_ N na x oy m_):=rfl
def Uj {α:Type} (ke:α) (k_:Bool→α) (l0:Rows→Int→Int→α) (na:Rows):α:=
 l0 na (len na) 0
def nc0 (k_:Bool→α) (N:Nat) (na:Rows):α:=Uj ke k_ (fun x oy=>Nu ke k_ N na x oy N) na
def TB (na:Rows):Bool:=bif na.all (fun r=>Qa (pN.nd r 0)) then decide (len na≤12) else false
theorem npz (k_:Bool→α) (na:Rows) (pP:G9 (.sl [.i,.i,.i,.i,.i,.i,.i,.i,.i]) (.sl na)):∃N,nc0 ke k_ N na=k_ (TB na):=by
 obtain⟨hl,_⟩:=oJ pP
 refine⟨na.length+1, ?_⟩
 unfold nc0 Uj
 refine (rb na (Nu ke k_ (na.length+1) na na (len na)) (fun i r c=>bif !(Qa (pN.nd r 0)) then k_ false else c) (k_ (decide (len na≤12))) ?_ ?_).trans ?_
 ·intro n i h
  rw[Wx]
  simp only[Nv,pw h,nY h,oO h hl,Int.toNat_natCast,ng,nn,cond_true]
 ·intro n
  rw[Wx]
  simp only[Nv,nX,cond_false]
 ·refine (Rr (fun r=>Qa (pN.nd r 0)) _ _ na 0).trans ?_
  exact Ka rfl rfl
def NQ (k_:Bool→α) (na:Rows) (oP:Int→α) (k:Int):α:=
 bif decide (k<len na) then
  bif Ei true (idx k na) then
   bif !(Qa (pN.nd (nth na (Int.toNat k)) 0)) then k_ false
   else oP (nS (k+1))
  else ke
 else k_ (decide (len na≤12))
def NP (k_:Bool→α) (N:Nat) (na:Rows) (m_:Nat):Int→α:=
 Nat.rec (motive:=fun _=>Int→α) (fun _=>ke) (fun _ oP=>NQ ke k_ na oP) m_
theorem Xw (k_:Bool→α) (N:Nat) (na:Rows) (m_:Nat):NP ke k_ N na (m_+1)=NQ ke k_ na (NP ke k_ N na m_):=rfl
def VN {α:Type} (ke:α) (k_:Bool→α) (l0:Int→α) (na:Rows):α:=
 l0 0
def nea (k_:Bool→α) (N:Nat) (na:Rows):α:=VN ke k_ (NP ke k_ N na N) na
theorem nq5 (k_:Bool→α) (na:Rows) (pP:G9 (.sl [.i,.i,.i,.i,.i,.i,.i,.i,.i]) (.sl na)):∃N,nea ke k_ N na=k_ (TB na):=by
 obtain⟨hl,_⟩:=oJ pP
 refine⟨na.length+1, ?_⟩
 unfold nea VN
 refine (rb na (NP ke k_ (na.length+1) na) (fun i r c=>bif !(Qa (pN.nd r 0)) then k_ false else c) (k_ (decide (len na≤12))) ?_ ?_).trans ?_
 ·intro n i h
  rw[Xw]
  simp only[NQ,pw h,nY h,oO h hl,Int.toNat_natCast,ng,nn,cond_true]
 ·intro n
  rw[Xw]
  simp only[NQ,nX,cond_false]
 ·refine (Rr (fun r=>Qa (pN.nd r 0)) _ _ na 0).trans ?_
  exact Ka rfl rfl
def na2 (k_:Rows→α) (l:Rows):α:=
 bif Ei true (pY 8 [] l) then
  k_ l
 else ke
theorem nm6 (k_:Rows→α) (l:Rows) (aJ:sm l=true):na2 ke k_ l=k_ (oD l):=by
 unfold na2
 rw[qy aJ (show 8≤8388608 by omega)]
 rfl
def na3 (k_:nj→α) (p:nj):α:=
 bif Ei true (sm p.oe) then
  k_ (⟨p.oA,p.nG,p.Count,oD p.oe⟩:nj)
 else ke
def we (p:nj):Bool:=sm p.oe
theorem nm7 (k_:nj→α) (p:nj) (aJ:we p=true):na3 ke k_ p=k_ (oD p):=by
 have h:sm p.oe=true:=aJ
 unfold na3
 simp only[h,ng,cond_true]
 rfl
def nev (k_:nj→α) (p:nj):α:=
 bif Ei true (pY 8 [] p.oe) then
  k_ p
 else ke
theorem nrn (k_:nj→α) (p:nj) (aJ:we p=true):nev ke k_ p=k_ (oD p):=by
 have h:sm p.oe=true:=aJ
 unfold nev
 rw[qy h (show 8≤8388608 by omega)]
 rfl
def O0 (k_:Bool→α) (x:Rows) (oy Pq:Int) (oP:Int→Rows→α) (oN:Int) (seen:Rows):α:=
 let z0:Bool:= !(nh (rI (nth x (Int.toNat oN)) 0) 0 (nS (Pq - 1)))
 let z1:Nat:=Int.toNat (rI (nth x (Int.toNat oN)) 0)
 let z2:Bool:=Ei (Ei true (idx (rI (nth x (Int.toNat oN)) 0) seen)) (inl z1 seen)
 let z3:List DC:=nth seen z1
 bif decide (oN<oy) then
  bif Ei true (idx oN x) then
   bif L1 z0 true z2 then
    bif bif z0 then true else rB z3 0 then k_ false
    else bif z2 then
      oP (nS (oN+1)) (List.set seen z1 (bT z3 0 [.bool true]))
     else ke
   else ke
  else ke
 else k_ true
def OZ (k_:Bool→α) (N:Nat) (x:Rows) (oy Pq:Int) (m_:Nat):Int→Rows→α:=
 Nat.rec (motive:=fun _=>Int→Rows→α) (fun _ _=>ke) (fun _ oP=>O0 ke k_ x oy Pq oP) m_
theorem Yi (k_:Bool→α) (N:Nat) (x:Rows) (oy Pq:Int) (m_:Nat):OZ ke k_ N x oy Pq (m_+1)=O0 ke k_ x oy Pq (OZ ke k_ N x oy Pq m_):=rfl
def XC (k_:Bool→α) (l0:Rows→Int→Int→Int→Rows→α) (p:nj):α:=
 bif bif !(nh p.oA 0 130944) then true else bif !(nh p.nG 1 512) then true else !(nh p.Count 0 16) then k_ false
 else bif Ei true (Po 1 p.Count p.Count) then
   l0 p.oe (len p.oe) p.Count 0 (List.replicate (Int.toNat p.Count) ([.bool false]:List DC))
  else ke
def nfK (k_:Bool→α) (N:Nat) (p:nj):α:=XC ke k_ (fun x oy Pq=>OZ ke k_ N x oy Pq N) p
def Tw {α σ:Type} (P:List DC→σ→Bool) (f:List DC→σ→σ) (x:α) (fin:σ→α):Rows→σ→α
 | [],s=>fin s
 | r::rs,s=>bif P r s then x else Tw P f x fin rs (f r s)
theorem ngt {α σ:Type} (list:Rows) (L:Nat→Int→σ→α) (P:List DC→σ→Bool) (f:List DC→σ→σ) (x:α) (fin:σ→α) (I:Nat→σ→Prop) (hI:∀i s,i<list.length→I i s→P (nth list i) s=false→I (i+1) (f (nth list i) s))
  (hs:∀n i s,i<list.length→I i s→L (n+1) (i:Int) s=bif P (nth list i) s then x else L n ((i:Int)+1) (f (nth list i) s))
  (hz:∀n s,I list.length s→L (n+1) (list.length:Int) s=fin s):∀(m i:Nat) (s:σ),i+m=list.length→I i s→L (m+1) (i:Int) s=Tw P f x fin (list.drop i) s
 | 0,i,s,h,hi=>by
  have:i=list.length:=by omega
  subst this
  rw[hz 0 s hi,List.drop_length]
  rfl
 | m+1,i,s,h,hi=>by
  have cr:i<list.length:=by omega
  rw[hs (m+1) i s cr hi,List.drop_eq_getElem_cons cr]
  have hn:nth list i=list[i]:=by simp [nth,List.getD_eq_getElem?_getD,cr]
  show _=bif P list[i] s then x else Tw P f x fin (list.drop (i+1)) (f list[i] s)
  rw[←hn]
  cases hp:P (nth list i) s
  ·rw[cond_false,cond_false]
   have:=ngt list L P f x fin I hI hs hz m (i+1) (f (nth list i) s) (by omega) (hI i s cr hi hp)
   rw[←this]
   rfl
  ·rfl
theorem njN {α σ:Type} (list:Rows) (L:Nat→Int→σ→α) (P:List DC→σ→Bool) (f:List DC→σ→σ) (x:α) (fin:σ→α) (I:Nat→σ→Prop) (hI:∀i s,i<list.length→I i s→P (nth list i) s=false→I (i+1) (f (nth list i) s))
  (hs:∀n i s,i<list.length→I i s→L (n+1) (i:Int) s=bif P (nth list i) s then x else L n ((i:Int)+1) (f (nth list i) s))
  (hz:∀n s,I list.length s→L (n+1) (list.length:Int) s=fin s) (s:σ) (h:I 0 s):L (list.length+1) 0 s=Tw P f x fin list s:=
 ngt list L P f x fin I hI hs hz list.length 0 s (by omega) h
theorem nuY {α β σ:Type} (k:β→α) (P:List DC→σ→Bool) (f:List DC→σ→σ) {x:β} (fin:σ→β):∀(list:Rows) (s:σ),Tw P f (k x) (fun s=>k (fin s)) list s=k (Tw P f x fin list s)
 | [],s=>rfl
 | r::rs,s=>by
  simp only[Tw]
  cases P r s
  ·exact nuY k P f fin rs _
  ·rfl
theorem cond_congr {α:Type} {c d:Bool} {x y u v:α} (h:c=d) (h1:c=true→x=u) (h2:c=false→y=v):(bif c then x else y)=(bif d then u else v):=by
 subst h
 cases c
 ·exact h2 rfl
 ·exact h1 rfl
def nuf (n:Int) (r:List DC) (s:Rows):Bool:=bif !(nh (rI r 0) 0 (n - 1)) then true else rB (nth s (Int.toNat (rI r 0))) 0
def nqL (r:List DC) (s:Rows):Rows:=List.set s (Int.toNat (rI r 0)) (bT (nth s (Int.toNat (rI r 0))) 0 [.bool true])
theorem njO (r:List DC) (s:Rows):(nqL r s).length=s.length:=by simp [nqL]
def qP (p:nj):Bool:=bif bif !(nh p.oA 0 130944) then true else bif !(nh p.nG 1 512) then true else !(nh p.Count 0 16) then false
 else Tw (nuf p.Count) nqL false (fun _=>true) p.oe (List.replicate (Int.toNat p.Count) [.bool false])
theorem nrO (k_:Bool→α) (p:nj) (h_p:kc nj.ct p.enc):∃N,nfK ke k_ N p=k_ (qP p):=by
 obtain⟨hl,hw⟩:=oJ (nj.nj_ h_p)
 refine⟨p.oe.length+1, ?_⟩
 unfold nfK XC qP
 refine pH (fun _=>rfl) (fun hg=> ?_)
 have hc:0≤p.Count∧p.Count≤16:=by
  cases h1:nh p.oA 0 130944
  ·rw[h1] at hg;cases hg
  cases h2:nh p.nG 1 512
  ·rw[h1,h2] at hg;cases hg
  cases h3:nh p.Count 0 16
  ·rw[h1,h2,h3] at hg;cases hg
  exact pA.1 h3
 have hmk:Po 1 p.Count p.Count=true:=by
  simp only[Po,Bool.and_eq_true,decide_eq_true_eq]
  omega
 rw[hmk,ng,cond_true]
 refine (njN p.oe (OZ ke k_ (p.oe.length+1) p.oe (len p.oe) p.Count) (nuf p.Count) nqL (k_ false) (fun _=>k_ true) (fun _ s=>(s.length:Int)=p.Count) (fun i s _ h _=> ?_) ?_ ?_ (List.replicate (Int.toNat p.Count) [.bool false]) ?_).trans ?_
 ·show ((nqL (nth p.oe i) s).length:Int)=p.Count
  rw[njO,h]
 ·intro n i s h hs
  rw[Yi]
  have hw1:nS (p.Count - 1)=p.Count - 1:=nP (by omega) (by omega)
  have hx:nh (rI (nth p.oe i) 0) 0 (p.Count - 1)=true→idx (rI (nth p.oe i) 0) s=true∧inl (Int.toNat (rI (nth p.oe i) 0)) s=true:=by
   intro hb
   have:=pA.1 hb
   refine⟨?_, ?_⟩
   ·simp only[idx,Bool.and_eq_true,decide_eq_true_eq];omega
   ·simp only[inl,decide_eq_true_eq];omega
  unfold nuf
  simp only[O0,pw h,nY h,oO h hl,Int.toNat_natCast,ng,nn,cond_true,hw1]
  cases hb:nh (rI (nth p.oe i) 0) 0 (p.Count - 1)
  ·rw[Xj (g:= !false) (x:=true) (fun _=>rfl) (fun h=>by cases h)]
   rfl
  ·obtain⟨x1,x2⟩:=hx hb
   rw[x1,x2]
   rfl
 ·intro n s _
  rw[Yi]
  simp only[O0,nX,cond_false]
 ·simp only[List.length_replicate];omega
 ·exact nuY k_ _ _ (fun _=>true) p.oe _
def PE (k_:Bool→α) (Pq:Int) (PL:Rows) (oP:Int→Rows→α) (k:Int) (seen:Rows):α:=
 let z0:Bool:= !(nh (rI (nth PL (Int.toNat k)) 0) 0 (nS (Pq - 1)))
 let z1:Bool:=idx (rI (nth PL (Int.toNat k)) 0) seen
 let z2:Nat:=Int.toNat (rI (nth PL (Int.toNat k)) 0)
 let z3:Bool:=inl z2 seen
 let z4:List DC:=nth seen z2
 bif decide (k<len PL) then
  bif L1 z0 (Ei true (idx k PL)) (Ei (Ei (Ei (Ei true (idx k PL)) (idx k PL)) z1) z3) then
   bif bif z0 then true else rB z4 0 then k_ false
   else bif Ei (Ei (Ei true (idx k PL)) z1) z3 then
     oP (nS (k+1)) (List.set seen z2 (bT z4 0 [.bool true]))
    else ke
  else ke
 else k_ true
def PD (k_:Bool→α) (N:Nat) (Pq:Int) (PL:Rows) (m_:Nat):Int→Rows→α:=
 Nat.rec (motive:=fun _=>Int→Rows→α) (fun _ _=>ke) (fun _ oP=>PE ke k_ Pq PL oP) m_
theorem ZO (k_:Bool→α) (N:Nat) (Pq:Int) (PL:Rows) (m_:Nat):PD ke k_ N Pq PL (m_+1)=PE ke k_ Pq PL (PD ke k_ N Pq PL m_):=rfl
def X0 (k_:Bool→α) (l0:Int→Rows→Int→Rows→α) (p:nj):α:=
 bif bif !(nh p.oA 0 130944) then true else bif !(nh p.nG 1 512) then true else !(nh p.Count 0 16) then k_ false
 else bif Ei true (Po 1 p.Count p.Count) then
   l0 p.Count p.oe 0 (List.replicate (Int.toNat p.Count) ([.bool false]:List DC))
  else ke
def ngy (k_:Bool→α) (N:Nat) (p:nj):α:=X0 ke k_ (fun Pq PL=>PD ke k_ N Pq PL N) p
theorem nsG (k_:Bool→α) (p:nj) (h_p:kc nj.ct p.enc):∃N,ngy ke k_ N p=k_ (qP p):=by
 obtain⟨hl,hw⟩:=oJ (nj.nj_ h_p)
 refine⟨p.oe.length+1, ?_⟩
 unfold ngy X0 qP
 refine pH (fun _=>rfl) (fun hg=> ?_)
 have hc:0≤p.Count∧p.Count≤16:=by
  cases h1:nh p.oA 0 130944
  ·rw[h1] at hg;cases hg
  cases h2:nh p.nG 1 512
  ·rw[h1,h2] at hg;cases hg
  cases h3:nh p.Count 0 16
  ·rw[h1,h2,h3] at hg;cases hg
  exact pA.1 h3
 have hmk:Po 1 p.Count p.Count=true:=by
  simp only[Po,Bool.and_eq_true,decide_eq_true_eq]
  omega
 rw[hmk,ng,cond_true]
 refine (njN p.oe (PD ke k_ (p.oe.length+1) p.Count p.oe) (nuf p.Count) nqL (k_ false) (fun _=>k_ true) (fun _ s=>(s.length:Int)=p.Count) (fun i s _ h _=> ?_) ?_ ?_ (List.replicate (Int.toNat p.Count) [.bool false]) ?_).trans ?_
 ·show ((nqL (nth p.oe i) s).length:Int)=p.Count
  rw[njO,h]
 ·intro n i s h hs
  rw[ZO]
  have hw1:nS (p.Count - 1)=p.Count - 1:=nP (by omega) (by omega)
  have hx:nh (rI (nth p.oe i) 0) 0 (p.Count - 1)=true→idx (rI (nth p.oe i) 0) s=true∧inl (Int.toNat (rI (nth p.oe i) 0)) s=true:=by
   intro hb
   have:=pA.1 hb
   refine⟨?_, ?_⟩
   ·simp only[idx,Bool.and_eq_true,decide_eq_true_eq];omega
   ·simp only[inl,decide_eq_true_eq];omega
  unfold nuf
  simp only[PE,pw h,nY h,oO h hl,Int.toNat_natCast,ng,nn,cond_true,hw1]
  cases hb:nh (rI (nth p.oe i) 0) 0 (p.Count - 1)
  ·rw[Xj (g:= !false) (x:=true) (fun _=>rfl) (fun h=>by cases h)]
   rfl
  ·obtain⟨x1,x2⟩:=hx hb
   rw[x1,x2]
   rfl
 ·intro n s _
  rw[ZO]
  simp only[PE,nX,cond_false]
 ·simp only[List.length_replicate];omega
 ·exact nuY k_ _ _ (fun _=>true) p.oe _
def Uf (k_:nj→Bool→α) (p:nj) (na:Rows):α:=
 let z0:nj:=(⟨(oD p).oA,(oD p).nG,(oD p).Count,((oD p).oe)++na⟩:nj)
 bif Ei true (we p) then
  bif Ei true (pY 8 ((oD p).oe) na) then
   bif bif !(qP p) then true else !(qP z0) then
    bif Ei true (we p) then
     k_ (oD p) false
    else ke
   else k_ z0 true
  else ke
 else ke
def OK (p:nj) (na:Rows):Bool:=sm p.oe && decide (p.oe.length+na.length≤134217728)
theorem nwu {p:nj} {na:Rows} (h:OK p na=true):sm p.oe=true∧p.oe.length+na.length≤134217728:=by
 simpa [OK] using h
def om (p:nj) (na:Rows):nj×Bool:=bif bif !(qP p) then true else !(qP (⟨p.oA,p.nG,p.Count,p.oe++na⟩:nj)) then (p,false) else ((⟨p.oA,p.nG,p.Count,p.oe++na⟩:nj),true)
theorem Ud (k_:nj→Bool→α) (p:nj) (na:Rows) (aJ:OK p na=true):Uf ke k_ p na=k_ (om p na).1 (om p na).2:=by
 have h:OK p na=true:=aJ
 obtain⟨h1,h2⟩:=nwu h
 have hp:we p=true:=h1
 unfold Uf om
 simp only[oD,hp,wM h2 (show 8≤1048576 by omega),ng,cond_true]
 generalize (bif !(qP p) then true else !(qP (⟨p.oA,p.nG,p.Count,p.oe++na⟩:nj)))=b
 cases b<;>rfl
def vS (k_:Int→Rows→α) (a:nc) (k:Int):α:=
 bif Ei true (Oz 1 a.nL k) then
  k_ ((uO a.nL k).1) ((uO a.nL k).2)
 else ke
def Ni (a:nc) (k:Int):Bool:=vS false (fun _ _=>true) a k
def xk (a:nc) (k:Int):Int×Rows:=(vS none (fun r0 r1=>some (r0,r1)) a k).getD (0,[])
theorem njd (k_:Int→Rows→α) (a:nc) (k:Int) (aJ:Ni a k=true):vS ke k_ a k=k_ (xk a k).1 (xk a k).2:=by
 exact ub (K:=fun r:Int×Rows=>k_ r.1 r.2) (oC (fun _=>⟨_,rfl,rfl⟩)) aJ
def vP (k_:Int→α) (a:nc) (k:Int):α:=
 bif Ei true (PK sK 1 a.nL k) then
  bif decide (uL a.nL k<0) then k_ (-1)
  else k_ (uL a.nL k)
 else ke
def zT (a:nc) (k:Int):Bool:=vP false (fun _=>true) a k
def N3 (a:nc) (k:Int):Int:=(vP none (fun r0=>some (r0)) a k).getD 0
theorem ni0 (k_:Int→α) (a:nc) (k:Int) (aJ:zT a k=true):vP ke k_ a k=k_ (N3 a k):=by
 exact ub (K:=fun r:Int=>k_ r) (oC (qY pU pU)) aJ
def xD (k_:Int→Rows→α) (a:nj) (k:Int):α:=
 bif Ei true (Oz 1 a.oe k) then
  k_ ((se a.oe k).1) ((se a.oe k).2)
 else ke
def R5 (a:nj) (k:Int):Bool:=xD false (fun _ _=>true) a k
def Pp (a:nj) (k:Int):Int×Rows:=(xD none (fun r0 r1=>some (r0,r1)) a k).getD (0,[])
theorem nnI (k_:Int→Rows→α) (a:nj) (k:Int) (aJ:R5 a k=true):xD ke k_ a k=k_ (Pp a k).1 (Pp a k).2:=by
 exact ub (K:=fun r:Int×Rows=>k_ r.1 r.2) (oC (fun _=>⟨_,rfl,rfl⟩)) aJ
def xB (k_:Int→α) (a:nj) (k:Int):α:=
 bif Ei true (PK rO 1 a.oe k) then
  bif decide (ri a.oe k<0) then k_ (-1)
  else k_ (ri a.oe k)
 else ke
def RO (a:nj) (k:Int):Bool:=xB false (fun _=>true) a k
def T8 (a:nj) (k:Int):Int:=(xB none (fun r0=>some (r0)) a k).getD 0
theorem nnA (k_:Int→α) (a:nj) (k:Int) (aJ:RO a k=true):xB ke k_ a k=k_ (T8 a k):=by
 exact ub (K:=fun r:Int=>k_ r) (oC (qY pU pU)) aJ
def vR (k_:Int→Rows→α) (a:nF) (k:Int):α:=
 bif Ei true (Oz 1 a.pE k) then
  k_ ((se a.pE k).1) ((se a.pE k).2)
 else ke
def Nh (a:nF) (k:Int):Bool:=vR false (fun _ _=>true) a k
def Og (a:nF) (k:Int):Int×Rows:=(vR none (fun r0 r1=>some (r0,r1)) a k).getD (0,[])
theorem ni_ (k_:Int→Rows→α) (a:nF) (k:Int) (aJ:Nh a k=true):vR ke k_ a k=k_ (Og a k).1 (Og a k).2:=by
 exact ub (K:=fun r:Int×Rows=>k_ r.1 r.2) (oC (fun _=>⟨_,rfl,rfl⟩)) aJ
def vO (k_:Int→α) (a:nF) (k:Int):α:=
 bif Ei true (PK rO 1 a.pE k) then
  bif decide (ri a.pE k<0) then k_ (-1)
  else k_ (ri a.pE k)
 else ke
def zR (a:nF) (k:Int):Bool:=vO false (fun _=>true) a k
def T7 (a:nF) (k:Int):Int:=(vO none (fun r0=>some (r0)) a k).getD 0
theorem niY (k_:Int→α) (a:nF) (k:Int) (aJ:zR a k=true):vO ke k_ a k=k_ (T7 a k):=by
 exact ub (K:=fun r:Int=>k_ r) (oC (qY pU pU)) aJ
def tY (k_:Int→Rows→α) (a:ni) (k:Int):α:=
 bif Ei true (Oz 7 a.nH k) then
  k_ ((QI a.nH k).1) ((QI a.nH k).2)
 else ke
def wL (a:ni) (k:Int):Bool:=tY false (fun _ _=>true) a k
def wc (a:ni) (k:Int):Int×Rows:=(tY none (fun r0 r1=>some (r0,r1)) a k).getD (0,[])
theorem ndr (k_:Int→Rows→α) (a:ni) (k:Int) (aJ:wL a k=true):tY ke k_ a k=k_ (wc a k).1 (wc a k).2:=by
 exact ub (K:=fun r:Int×Rows=>k_ r.1 r.2) (oC (fun _=>⟨_,rfl,rfl⟩)) aJ
def tX (k_:Int→α) (a:ni) (k:Int):α:=
 bif Ei true (PK Z0 7 a.nH k) then
  bif decide (TU a.nH k<0) then k_ (-1)
  else k_ (TU a.nH k)
 else ke
def wE (a:ni) (k:Int):Bool:=tX false (fun _=>true) a k
def zS (a:ni) (k:Int):Int:=(tX none (fun r0=>some (r0)) a k).getD 0
theorem ndm (k_:Int→α) (a:ni) (k:Int) (aJ:wE a k=true):tX ke k_ a k=k_ (zS a k):=by
 exact ub (K:=fun r:Int=>k_ r) (oC (qY pU pU)) aJ
def vT (k_:Int→Rows→α) (a:nI) (k:Int):α:=
 bif Ei true (Oz 1 a.Table k) then
  k_ ((se a.Table k).1) ((se a.Table k).2)
 else ke
def Nj (a:nI) (k:Int):Bool:=vT false (fun _ _=>true) a k
def Oh (a:nI) (k:Int):Int×Rows:=(vT none (fun r0 r1=>some (r0,r1)) a k).getD (0,[])
theorem njl (k_:Int→Rows→α) (a:nI) (k:Int) (aJ:Nj a k=true):vT ke k_ a k=k_ (Oh a k).1 (Oh a k).2:=by
 exact ub (K:=fun r:Int×Rows=>k_ r.1 r.2) (oC (fun _=>⟨_,rfl,rfl⟩)) aJ
def vQ (k_:Int→α) (a:nI) (k:Int):α:=
 bif Ei true (PK rO 1 a.Table k) then
  bif decide (ri a.Table k<0) then k_ (-1)
  else k_ (ri a.Table k)
 else ke
def zU (a:nI) (k:Int):Bool:=vQ false (fun _=>true) a k
def T9 (a:nI) (k:Int):Int:=(vQ none (fun r0=>some (r0)) a k).getD 0
theorem ni6 (k_:Int→α) (a:nI) (k:Int) (aJ:zU a k=true):vQ ke k_ a k=k_ (T9 a k):=by
 exact ub (K:=fun r:Int=>k_ r) (oC (qY pU pU)) aJ
def vc (k_:Int→Rows→Rows→α) (a:nv) (k:Int):α:=
 let z0:Int×Rows:=zt a.nD ((Pp a.n9 k).1)
 bif Ei true (R5 a.n9 k) then
  bif Ei true (ym sw Sj a.nD ((Pp a.n9 k).1)) then
   k_ z0.1 ((Pp a.n9 k).2) z0.2
  else ke
 else ke
def yI (a:nv) (k:Int):Bool:=vc false (fun _ _ _=>true) a k
def vV (a:nv) (k:Int):Int×Rows×Rows:=(vc none (fun r0 r1 r2=>some (r0,r1,r2)) a k).getD (0,[],[])
theorem nhm (k_:Int→Rows→Rows→α) (a:nv) (k:Int) (aJ:yI a k=true):vc ke k_ a k=k_ (vV a k).1 (vV a k).2.1 (vV a k).2.2:=by
 exact ub (K:=fun r:Int×Rows×Rows=>k_ r.1 r.2.1 r.2.2) (oC (oC (fun _=>⟨_,rfl,rfl⟩))) aJ
def vb (k_:Int→α) (a:nv) (k:Int):α:=
 let z0:Int:=X_ a.nD (T8 a.n9 k)
 bif Ei true (RO a.n9 k) then
  bif decide (T8 a.n9 k<0) then k_ (-1)
  else bif Ei true (neT a.nD (T8 a.n9 k)) then
    bif decide (z0<0) then k_ (-1)
    else k_ z0
   else ke
 else ke
def yy (a:nv) (k:Int):Bool:=vb false (fun _=>true) a k
def RQ (a:nv) (k:Int):Int:=(vb none (fun r0=>some (r0)) a k).getD 0
theorem nhc (k_:Int→α) (a:nv) (k:Int) (aJ:yy a k=true):vb ke k_ a k=k_ (RQ a k):=by
 exact ub (K:=fun r:Int=>k_ r) (oC (qY pU (oC (qY pU pU)))) aJ
def uC (k_:Int→Rows→Rows→Rows→α) (a:nm) (k:Int):α:=
 let z0:Int×Rows:=wc a.Table ((Ow a.oM k).1)
 let z1:Int×Rows:=Oh a.oa z0.1
 bif Ei true (Oz 9 a.oM k) then
  bif Ei true (wL a.Table ((Ow a.oM k).1)) then
   bif Ei true (Nj a.oa z0.1) then
    k_ z1.1 ((Ow a.oM k).2) z0.2 z1.2
   else ke
  else ke
 else ke
def xE (a:nm) (k:Int):Bool:=uC false (fun _ _ _ _=>true) a k
def sZ (a:nm) (k:Int):Int×Rows×Rows×Rows:=(uC none (fun r0 r1 r2 r3=>some (r0,r1,r2,r3)) a k).getD (0,[],[],[])
theorem nfp (k_:Int→Rows→Rows→Rows→α) (a:nm) (k:Int) (aJ:xE a k=true):uC ke k_ a k=k_ (sZ a k).1 (sZ a k).2.1 (sZ a k).2.2.1 (sZ a k).2.2.2:=by
 exact ub (K:=fun r:Int×Rows×Rows×Rows=>k_ r.1 r.2.1 r.2.2.1 r.2.2.2) (oC (oC (oC (fun _=>⟨_,rfl,rfl⟩)))) aJ
def uB (k_:Int→α) (a:nm) (k:Int):α:=
 let z0:Int:=zS a.Table (Qc a.oM k)
 let z1:Int:=T9 a.oa z0
 bif Ei true (PK ZZ 9 a.oM k) then
  bif decide (Qc a.oM k<0) then k_ (-1)
  else bif Ei true (wE a.Table (Qc a.oM k)) then
    bif decide (z0<0) then k_ (-1)
    else bif Ei true (zU a.oa z0) then
      bif decide (z1<0) then k_ (-1)
      else k_ z1
     else ke
   else ke
 else ke
def xu (a:nm) (k:Int):Bool:=uB false (fun _=>true) a k
def OP (a:nm) (k:Int):Int:=(uB none (fun r0=>some (r0)) a k).getD 0
theorem nfe (k_:Int→α) (a:nm) (k:Int) (aJ:xu a k=true):uB ke k_ a k=k_ (OP a k):=by
 exact ub (K:=fun r:Int=>k_ r) (oC (qY pU (oC (qY pU (oC (qY pU pU)))))) aJ
def xC (k_:Int→Rows→Rows→Rows→Rows→Rows→Rows→Rows→Rows→Rows→Rows→Rows→Rows→Rows→Rows→Rows→Rows→α) (a:nt) (k:Int):α:=
 let z0:Int×Rows:=zq a.Maps ((xk a.n_ k).1)
 let z1:Int×Rows×Rows:=vV a.Tx z0.1
 let z2:Int:=z1.1
 let z3:Int×Rows:=zs a.Rx z2
 let z4:Int:=z3.1
 let z5:Int×Rows:=zr a.nR z4
 let z6:Int:=z5.1
 let z7:Int×Rows:=Oy a.nN z6
 let z8:Int:=z7.1
 let z9:Int×Rows:=QH a.nT z8
 let TR:Int:=z9.1
 let z11:Int×Rows:=Og a.Filter TR
 let z12:Int:=z11.1
 let z13:Int×Rows×Rows×Rows:=sZ a.nk z12
 let z14:Int:=z13.1
 let z15:Int×Rows:=Ox a.oE z14
 let z16:Int:=z15.1
 let z17:Int×Rows:=uO a.tU z16
 let z18:Int:=z17.1
 let z19:Int×Rows:=se a.oG z18
 let z20:Int:=z19.1
 let z21:Int×Rows:=se a.oU z20
 bif Ei true (Ni a.n_ k) then
  bif Ei true (Oz 4 a.Maps ((xk a.n_ k).1)) then
   bif Ei true (yI a.Tx z0.1) then
    bif Ei true (Oz 30 a.Rx z2) then
     bif Ei true (ym su Si a.nR z4) then
      bif Ei true (Oz 6 a.nN z6) then
       bif Ei true (Oz 1 a.nT z8) then
        bif Ei true (Nh a.Filter TR) then
         bif Ei true (xE a.nk z12) then
          bif Ei true (Oz 8 a.oE z14) then
           bif Ei true (Oz 1 a.tU z16) then
            bif Ei true (Oz 1 a.oG z18) then
             bif Ei true (Oz 1 a.oU z20) then
              k_ z21.1 ((xk a.n_ k).2) z0.2 z1.2.1 z1.2.2 z3.2 z5.2 z7.2 z9.2 z11.2 z13.2.1 z13.2.2.1 z13.2.2.2 z15.2 z17.2 z19.2 z21.2
             else ke
            else ke
           else ke
          else ke
         else ke
        else ke
       else ke
      else ke
     else ke
    else ke
   else ke
  else ke
 else ke
def yH (a:nt) (k:Int):Bool:=xC false (fun _ _ _ _ _ _ _ _ _ _ _ _ _ _ _ _ _=>true) a k
def pQ (a:nt) (k:Int):Int×Rows×Rows×Rows×Rows×Rows×Rows×Rows×Rows×Rows×Rows×Rows×Rows×Rows×Rows×Rows×Rows:=(xC none (fun r0 r1 r2 r3 r4 r5 r6 r7 r8 r9 r10 r11 r12 r13 r14 r15 r16=>some (r0,r1,r2,r3,r4,r5,r6,r7,r8,r9,r10,r11,r12,r13,r14,r15,r16)) a k).getD (0,[],[],[],[],[],[],[],[],[],[],[],[],[],[],[],[])
theorem nnD (k_:Int→Rows→Rows→Rows→Rows→Rows→Rows→Rows→Rows→Rows→Rows→Rows→Rows→Rows→Rows→Rows→Rows→α) (a:nt) (k:Int) (aJ:yH a k=true):xC ke k_ a k=k_ (pQ a k).1 (pQ a k).2.1 (pQ a k).2.2.1 (pQ a k).2.2.2.1 (pQ a k).2.2.2.2.1 (pQ a k).2.2.2.2.2.1 (pQ a k).2.2.2.2.2.2.1 (pQ a k).2.2.2.2.2.2.2.1 (pQ a k).2.2.2.2.2.2.2.2.1 (pQ a k).2.2.2.2.2.2.2.2.2.1 (pQ a k).2.2.2.2.2.2.2.2.2.2.1 (pQ a k).2.2.2.2.2.2.2.2.2.2.2.1 (pQ a k).2.2.2.2.2.2.2.2.2.2.2.2.1 (pQ a k).2.2.2.2.2.2.2.2.2.2.2.2.2.1 (pQ a k).2.2.2.2.2.2.2.2.2.2.2.2.2.2.1 (pQ a k).2.2.2.2.2.2.2.2.2.2.2.2.2.2.2.1 (pQ a k).2.2.2.2.2.2.2.2.2.2.2.2.2.2.2.2:=by
 exact ub (K:=fun r:Int×Rows×Rows×Rows×Rows×Rows×Rows×Rows×Rows×Rows×Rows×Rows×Rows×Rows×Rows×Rows×Rows=>k_ r.1 r.2.1 r.2.2.1 r.2.2.2.1 r.2.2.2.2.1 r.2.2.2.2.2.1 r.2.2.2.2.2.2.1 r.2.2.2.2.2.2.2.1 r.2.2.2.2.2.2.2.2.1 r.2.2.2.2.2.2.2.2.2.1 r.2.2.2.2.2.2.2.2.2.2.1 r.2.2.2.2.2.2.2.2.2.2.2.1 r.2.2.2.2.2.2.2.2.2.2.2.2.1 r.2.2.2.2.2.2.2.2.2.2.2.2.2.1 r.2.2.2.2.2.2.2.2.2.2.2.2.2.2.1 r.2.2.2.2.2.2.2.2.2.2.2.2.2.2.2.1 r.2.2.2.2.2.2.2.2.2.2.2.2.2.2.2.2) (oC (oC (oC (oC (oC (oC (oC (oC (oC (oC (oC (oC (oC (fun _=>⟨_,rfl,rfl⟩)))))))))))))) aJ
def xA (k_:Int→α) (a:nt) (k:Int):α:=
 let z0:Int:=ON a.Maps (N3 a.n_ k)
 let z1:Int:=RQ a.Tx z0
 let z2:Int:=OO a.Rx z1
 let z3:Int:=X9 a.nR z2
 let z4:Int:=RR a.nN z3
 let z5:Int:=TS a.nT z4
 let z6:Int:=T7 a.Filter z5
 let z7:Int:=OP a.nk z6
 let z8:Int:=RP a.oE z7
 let z9:Int:=uL a.tU z8
 let TR:Int:=ri a.oG z9
 let z11:Int:=ri a.oU TR
 bif Ei true (zT a.n_ k) then
  bif decide (N3 a.n_ k<0) then k_ (-1)
  else bif Ei true (PK yW 4 a.Maps (N3 a.n_ k)) then
    bif decide (z0<0) then k_ (-1)
    else bif Ei true (yy a.Tx z0) then
      bif decide (z1<0) then k_ (-1)
      else bif Ei true (PK yX 30 a.Rx z1) then
        bif decide (z2<0) then k_ (-1)
        else bif Ei true (neS a.nR z2) then
          bif decide (z3<0) then k_ (-1)
          else bif Ei true (PK OI 6 a.nN z3) then
            bif decide (z4<0) then k_ (-1)
            else bif Ei true (PK OG 1 a.nT z4) then
              bif decide (z5<0) then k_ (-1)
              else bif Ei true (zR a.Filter z5) then
                bif decide (z6<0) then k_ (-1)
                else bif Ei true (xu a.nk z6) then
                  bif decide (z7<0) then k_ (-1)
                  else bif Ei true (PK OH 8 a.oE z7) then
                    bif decide (z8<0) then k_ (-1)
                    else bif Ei true (PK sK 1 a.tU z8) then
                      bif decide (z9<0) then k_ (-1)
                      else bif Ei true (PK rO 1 a.oG z9) then
                        bif decide (TR<0) then k_ (-1)
                        else bif Ei true (PK rO 1 a.oU TR) then
                          bif decide (z11<0) then k_ (-1)
                          else k_ z11
                         else ke
                       else ke
                     else ke
                   else ke
                 else ke
               else ke
             else ke
           else ke
         else ke
       else ke
     else ke
   else ke
 else ke
def Oq (a:nt) (k:Int):Bool:=xA false (fun _=>true) a k
def X8 (a:nt) (k:Int):Int:=(xA none (fun r0=>some (r0)) a k).getD 0
theorem nnx (k_:Int→α) (a:nt) (k:Int) (aJ:Oq a k=true):xA ke k_ a k=k_ (X8 a k):=by
 exact ub (K:=fun r:Int=>k_ r) (oC (qY pU (oC (qY pU (oC (qY pU (oC (qY pU (oC (qY pU (oC (qY pU (oC (qY pU (oC (qY pU (oC (qY pU (oC (qY pU (oC (qY pU (oC (qY pU (oC (qY pU pU)))))))))))))))))))))))))) aJ
theorem nxg (x k:Bool):((bif x then k else false)=true)=(x=true∧k=true):=by cases x<;>simp
def vq (a:nt):Bool:=sm a.n_.nL && (sm a.Maps && (sm a.Tx.n9.oe && (Pv a.Tx.nD && (sm a.Rx && (Xn a.nR && (sm a.nN && (sm a.nT && (sm a.Filter.pE && (sm a.nk.oM && (sm a.nk.Table.nH && (sm a.nk.oa.Table && (sm a.oE && (sm a.tU && (sm a.oG && (sm a.oU)))))))))))))))
theorem nvP {a:nt} (h:sX a=true):vq a=true:=by
 simp only[sX,RH,uU,NH,uh,zp,sY,RI,uT,NG,tG,yl,ta,xh,uV,NM,ng,gr,nxg,Bool.and_eq_true,and_true,true_and,tl,uq,ua,RJ,List.all_eq_true] at h
 simp only[vq,Pv,Xn,Bool.and_eq_true,List.all_eq_true]
 obtain⟨h0,h1,⟨h2,h3,h4⟩,h5,⟨h6,h7⟩,h8,h9,h10,⟨h11,h12,h13⟩,h14,h15,h16,h17⟩:=h
 exact⟨h0,h1,h2,⟨h3,h4⟩,h5,⟨h6,h7⟩,h8,h9,h10,h11,h12,h13,h14,h15,h16,h17⟩
theorem nvo {a:nt} (h:vq a=true):∃(K:Int) (P0 P1 P2 P3 P4 P5 P6 P7 P8 P9 P10 P11 P12 P13 P14 P15:Rows),yH a 1=true∧pQ a 1=(K,P0,P1,P2,P3,P4,P5,P6,P7,P8,P9,P10,P11,P12,P13,P14,P15)∧0≤K∧Oq (⟨⟨P0⟩,P1,⟨a.Tx.Ring,⟨a.Tx.n9.oA,a.Tx.n9.nG,a.Tx.n9.Count,P2⟩,P3,a.Tx.Next⟩,P4,P5,P6,P7,⟨a.Filter.Wj,a.Filter.oH,P8⟩,⟨P9,⟨P10⟩,⟨a.nk.oa.Key,P11⟩⟩,P12,a.p9,P13,P14,P15,a.Counters⟩:nt) 1=true∧X8 (⟨⟨P0⟩,P1,⟨a.Tx.Ring,⟨a.Tx.n9.oA,a.Tx.n9.nG,a.Tx.n9.Count,P2⟩,P3,a.Tx.Next⟩,P4,P5,P6,P7,⟨a.Filter.Wj,a.Filter.oH,P8⟩,⟨P9,⟨P10⟩,⟨a.nk.oa.Key,P11⟩⟩,P12,a.p9,P13,P14,P15,a.Counters⟩:nt) 1=K:=by
 simp only[vq,Bool.and_eq_true] at h
 obtain⟨s0,s1,s2,s3,s4,s5,s6,s7,s8,s9,s10,s11,s12,s13,s14,s15⟩:=h
 have l0:=sO s0
 obtain⟨K0,hK0⟩:∃K:Int,K=1+1*(a.n_.nL.length:Int):=⟨_,rfl⟩
 have o0:Oz 1 a.n_.nL 1=true:=yJ s0 (by omega) (by omega)
 have e0:uO a.n_.nL 1=(K0,(vp sK 1 a.n_.nL.length 1)):=by rw[hK0];rfl
 have q0:PK sK 1 (vp sK 1 a.n_.nL.length 1) 1=true:=OM s0 (by omega) (by omega)
 have g0:uL (vp sK 1 a.n_.nL.length 1) 1=K0:=by rw[hK0];simp only[uL,qg]
 have b0:0≤K0∧K0≤16777217:=by omega
 have z0:¬K0<0:=by omega
 clear hK0
 have l1:=sO s1
 obtain⟨K1,hK1⟩:∃K:Int,K=K0+4*(a.Maps.length:Int):=⟨_,rfl⟩
 have o1:Oz 4 a.Maps K0=true:=yJ s1 (by omega) (by omega)
 have e1:zq a.Maps K0=(K1,(vp yW 4 a.Maps.length K0)):=by rw[hK1];rfl
 have q1:PK yW 4 (vp yW 4 a.Maps.length K0) K0=true:=OM s1 (by omega) (by omega)
 have g1:ON (vp yW 4 a.Maps.length K0) K0=K1:=by rw[hK1];simp only[ON,qg]
 have b1:0≤K1∧K1≤83886081:=by omega
 have z1:¬K1<0:=by omega
 clear hK1
 have l2:=sO s2
 obtain⟨K2,hK2⟩:∃K:Int,K=K1+1*(a.Tx.n9.oe.length:Int):=⟨_,rfl⟩
 have o2:Oz 1 a.Tx.n9.oe K1=true:=yJ s2 (by omega) (by omega)
 have e2:se a.Tx.n9.oe K1=(K2,(vp rO 1 a.Tx.n9.oe.length K1)):=by rw[hK2];rfl
 have q2:PK rO 1 (vp rO 1 a.Tx.n9.oe.length K1) K1=true:=OM s2 (by omega) (by omega)
 have g2:ri (vp rO 1 a.Tx.n9.oe.length K1) K1=K2:=by rw[hK2];simp only[ri,qg]
 have b2:0≤K2∧K2≤100663297:=by omega
 have z2:¬K2<0:=by omega
 clear hK2
 obtain⟨o3,q3,g3,u3,v3⟩:=nwD s3 (k:=K2) (by omega) (by omega)
 obtain⟨K3,hK3⟩:∃K:Int,K=(R7 sw a.Tx.nD K2).2:=⟨_,rfl⟩
 have e3:zt a.Tx.nD K2=(K3,(R7 sw a.Tx.nD K2).1):=by rw[hK3];rfl
 have g3:X_ (R7 sw a.Tx.nD K2).1 K2=K3:=by rw[hK3];exact g3
 rw[←hK3] at u3 v3
 have b3:0≤K3∧K3≤281475211591681:=by omega
 have z3:¬K3<0:=by omega
 clear hK3
 have l4:=sO s4
 obtain⟨K4,hK4⟩:∃K:Int,K=K3+30*(a.Rx.length:Int):=⟨_,rfl⟩
 have o4:Oz 30 a.Rx K3=true:=yJ s4 (by omega) (by omega)
 have e4:zs a.Rx K3=(K4,(vp yX 30 a.Rx.length K3)):=by rw[hK4];rfl
 have q4:PK yX 30 (vp yX 30 a.Rx.length K3) K3=true:=OM s4 (by omega) (by omega)
 have g4:OO (vp yX 30 a.Rx.length K3) K3=K4:=by rw[hK4];simp only[OO,qg]
 have b4:0≤K4∧K4≤281475714908161:=by omega
 have z4:¬K4<0:=by omega
 clear hK4
 obtain⟨o5,q5,g5,u5,v5⟩:=nwC s5 (k:=K4) (by omega) (by omega)
 obtain⟨K5,hK5⟩:∃K:Int,K=(R7 su a.nR K4).2:=⟨_,rfl⟩
 have e5:zr a.nR K4=(K5,(R7 su a.nR K4).1):=by rw[hK5];rfl
 have g5:X9 (R7 su a.nR K4).1 K4=K5:=by rw[hK5];exact g5
 rw[←hK5] at u5 v5
 have b5:0≤K5∧K5≤562950825836545:=by omega
 have z5:¬K5<0:=by omega
 clear hK5
 have l6:=sO s6
 obtain⟨K6,hK6⟩:∃K:Int,K=K5+6*(a.nN.length:Int):=⟨_,rfl⟩
 have o6:Oz 6 a.nN K5=true:=yJ s6 (by omega) (by omega)
 have e6:Oy a.nN K5=(K6,(vp OI 6 a.nN.length K5)):=by rw[hK6];rfl
 have q6:PK OI 6 (vp OI 6 a.nN.length K5) K5=true:=OM s6 (by omega) (by omega)
 have g6:RR (vp OI 6 a.nN.length K5) K5=K6:=by rw[hK6];simp only[RR,qg]
 have b6:0≤K6∧K6≤562950926499841:=by omega
 have z6:¬K6<0:=by omega
 clear hK6
 have l7:=sO s7
 obtain⟨K7,hK7⟩:∃K:Int,K=K6+1*(a.nT.length:Int):=⟨_,rfl⟩
 have o7:Oz 1 a.nT K6=true:=yJ s7 (by omega) (by omega)
 have e7:QH a.nT K6=(K7,(vp OG 1 a.nT.length K6)):=by rw[hK7];rfl
 have q7:PK OG 1 (vp OG 1 a.nT.length K6) K6=true:=OM s7 (by omega) (by omega)
 have g7:TS (vp OG 1 a.nT.length K6) K6=K7:=by rw[hK7];simp only[TS,qg]
 have b7:0≤K7∧K7≤562950943277057:=by omega
 have z7:¬K7<0:=by omega
 clear hK7
 have l8:=sO s8
 obtain⟨K8,hK8⟩:∃K:Int,K=K7+1*(a.Filter.pE.length:Int):=⟨_,rfl⟩
 have o8:Oz 1 a.Filter.pE K7=true:=yJ s8 (by omega) (by omega)
 have e8:se a.Filter.pE K7=(K8,(vp rO 1 a.Filter.pE.length K7)):=by rw[hK8];rfl
 have q8:PK rO 1 (vp rO 1 a.Filter.pE.length K7) K7=true:=OM s8 (by omega) (by omega)
 have g8:ri (vp rO 1 a.Filter.pE.length K7) K7=K8:=by rw[hK8];simp only[ri,qg]
 have b8:0≤K8∧K8≤562950960054273:=by omega
 have z8:¬K8<0:=by omega
 clear hK8
 have l9:=sO s9
 obtain⟨K9,hK9⟩:∃K:Int,K=K8+9*(a.nk.oM.length:Int):=⟨_,rfl⟩
 have o9:Oz 9 a.nk.oM K8=true:=yJ s9 (by omega) (by omega)
 have e9:Ow a.nk.oM K8=(K9,(vp ZZ 9 a.nk.oM.length K8)):=by rw[hK9];rfl
 have q9:PK ZZ 9 (vp ZZ 9 a.nk.oM.length K8) K8=true:=OM s9 (by omega) (by omega)
 have g9:Qc (vp ZZ 9 a.nk.oM.length K8) K8=K9:=by rw[hK9];simp only[Qc,qg]
 have b9:0≤K9∧K9≤562951111049217:=by omega
 have z9:¬K9<0:=by omega
 clear hK9
 have l10:=sO s10
 obtain⟨K10,nxh⟩:∃K:Int,K=K9+7*(a.nk.Table.nH.length:Int):=⟨_,rfl⟩
 have o10:Oz 7 a.nk.Table.nH K9=true:=yJ s10 (by omega) (by omega)
 have e10:QI a.nk.Table.nH K9=(K10,(vp Z0 7 a.nk.Table.nH.length K9)):=by rw[nxh];rfl
 have q10:PK Z0 7 (vp Z0 7 a.nk.Table.nH.length K9) K9=true:=OM s10 (by omega) (by omega)
 have g10:TU (vp Z0 7 a.nk.Table.nH.length K9) K9=K10:=by rw[nxh];simp only[TU,qg]
 have b10:0≤K10∧K10≤562951228489729:=by omega
 have TR:¬K10<0:=by omega
 clear nxh
 have l11:=sO s11
 obtain⟨K11,nxi⟩:∃K:Int,K=K10+1*(a.nk.oa.Table.length:Int):=⟨_,rfl⟩
 have o11:Oz 1 a.nk.oa.Table K10=true:=yJ s11 (by omega) (by omega)
 have e11:se a.nk.oa.Table K10=(K11,(vp rO 1 a.nk.oa.Table.length K10)):=by rw[nxi];rfl
 have q11:PK rO 1 (vp rO 1 a.nk.oa.Table.length K10) K10=true:=OM s11 (by omega) (by omega)
 have g11:ri (vp rO 1 a.nk.oa.Table.length K10) K10=K11:=by rw[nxi];simp only[ri,qg]
 have b11:0≤K11∧K11≤562951245266945:=by omega
 have z11:¬K11<0:=by omega
 clear nxi
 have l12:=sO s12
 obtain⟨K12,nxj⟩:∃K:Int,K=K11+8*(a.oE.length:Int):=⟨_,rfl⟩
 have o12:Oz 8 a.oE K11=true:=yJ s12 (by omega) (by omega)
 have e12:Ox a.oE K11=(K12,(vp OH 8 a.oE.length K11)):=by rw[nxj];rfl
 have q12:PK OH 8 (vp OH 8 a.oE.length K11) K11=true:=OM s12 (by omega) (by omega)
 have g12:RP (vp OH 8 a.oE.length K11) K11=K12:=by rw[nxj];simp only[RP,qg]
 have b12:0≤K12∧K12≤562951379484673:=by omega
 have z12:¬K12<0:=by omega
 clear nxj
 have l13:=sO s13
 obtain⟨K13,nxk⟩:∃K:Int,K=K12+1*(a.tU.length:Int):=⟨_,rfl⟩
 have o13:Oz 1 a.tU K12=true:=yJ s13 (by omega) (by omega)
 have e13:uO a.tU K12=(K13,(vp sK 1 a.tU.length K12)):=by rw[nxk];rfl
 have q13:PK sK 1 (vp sK 1 a.tU.length K12) K12=true:=OM s13 (by omega) (by omega)
 have g13:uL (vp sK 1 a.tU.length K12) K12=K13:=by rw[nxk];simp only[uL,qg]
 have b13:0≤K13∧K13≤562951396261889:=by omega
 have z13:¬K13<0:=by omega
 clear nxk
 have l14:=sO s14
 obtain⟨K14,nxl⟩:∃K:Int,K=K13+1*(a.oG.length:Int):=⟨_,rfl⟩
 have o14:Oz 1 a.oG K13=true:=yJ s14 (by omega) (by omega)
 have e14:se a.oG K13=(K14,(vp rO 1 a.oG.length K13)):=by rw[nxl];rfl
 have q14:PK rO 1 (vp rO 1 a.oG.length K13) K13=true:=OM s14 (by omega) (by omega)
 have g14:ri (vp rO 1 a.oG.length K13) K13=K14:=by rw[nxl];simp only[ri,qg]
 have b14:0≤K14∧K14≤562951413039105:=by omega
 have z14:¬K14<0:=by omega
 clear nxl
 have l15:=sO s15
 obtain⟨K15,nxm⟩:∃K:Int,K=K14+1*(a.oU.length:Int):=⟨_,rfl⟩
 have o15:Oz 1 a.oU K14=true:=yJ s15 (by omega) (by omega)
 have e15:se a.oU K14=(K15,(vp rO 1 a.oU.length K14)):=by rw[nxm];rfl
 have q15:PK rO 1 (vp rO 1 a.oU.length K14) K14=true:=OM s15 (by omega) (by omega)
 have g15:ri (vp rO 1 a.oU.length K14) K14=K15:=by rw[nxm];simp only[ri,qg]
 have b15:0≤K15∧K15≤562951429816321:=by omega
 have z15:¬K15<0:=by omega
 clear nxm
 refine⟨K15,(vp sK 1 a.n_.nL.length 1),(vp yW 4 a.Maps.length K0),(vp rO 1 a.Tx.n9.oe.length K1),(R7 sw a.Tx.nD K2).1,(vp yX 30 a.Rx.length K3),(R7 su a.nR K4).1,(vp OI 6 a.nN.length K5),(vp OG 1 a.nT.length K6),(vp rO 1 a.Filter.pE.length K7),(vp ZZ 9 a.nk.oM.length K8),(vp Z0 7 a.nk.Table.nH.length K9),(vp rO 1 a.nk.oa.Table.length K10),(vp OH 8 a.oE.length K11),(vp sK 1 a.tU.length K12),(vp rO 1 a.oG.length K13),(vp rO 1 a.oU.length K14), ?_, ?_,by omega, ?_, ?_⟩
 ·simp only[Ni,xk,vS,R5,Pp,xD,Nh,Og,vR,wL,wc,tY,Nj,Oh,vT,yI,vV,vc,xE,sZ,uC,yH,pQ,xC,Option.getD_some,e0,e1,e2,e3,e4,e5,e6,e7,e8,e9,e10,e11,e12,e13,e14,e15,o0,o1,o2,o3,o4,o5,o6,o7,o8,o9,o10,o11,o12,o13,o14,o15,ng,nn,cond_true]
 ·simp only[Ni,xk,vS,R5,Pp,xD,Nh,Og,vR,wL,wc,tY,Nj,Oh,vT,yI,vV,vc,xE,sZ,uC,yH,pQ,xC,e0,e1,e2,e3,e4,e5,e6,e7,e8,e9,e10,e11,e12,e13,e14,e15,o0,o1,o2,o3,o4,o5,o6,o7,o8,o9,o10,o11,o12,o13,o14,o15,ng,nn,cond_true,Option.getD_some]
 ·simp only[zT,N3,vP,RO,T8,xB,zR,T7,vO,wE,zS,tX,zU,T9,vQ,yy,RQ,vb,xu,OP,uB,Oq,X8,xA,Option.getD_some,g0,g1,g2,g3,g4,g5,g6,g7,g8,g9,g10,g11,g12,g13,g14,g15,q0,q1,q2,q3,q4,q5,q6,q7,q8,q9,q10,q11,q12,q13,q14,q15,z0,z1,z2,z3,z4,z5,z6,z7,z8,z9,TR,z11,z12,z13,z14,z15,decide_false,cond_false,ng,nn,cond_true]
 ·simp only[zT,N3,vP,RO,T8,xB,zR,T7,vO,wE,zS,tX,zU,T9,vQ,yy,RQ,vb,xu,OP,uB,Oq,X8,xA,g0,g1,g2,g3,g4,g5,g6,g7,g8,g9,g10,g11,g12,g13,g14,g15,q0,q1,q2,q3,q4,q5,q6,q7,q8,q9,q10,q11,q12,q13,q14,q15,z0,z1,z2,z3,z4,z5,z6,z7,z8,z9,TR,z11,z12,z13,z14,z15,decide_false,cond_false,ng,nn,cond_true,Option.getD_some]
theorem nvb {a:Rows} {left:Int} (h1:0≤left) (h2:left≤1048576) (ha:a.length≤9223372036854775807) (h0:0≤oI a left):a.length≤1048576:=by
 obtain⟨e,hl⟩:=neH h1 h2 ha
 simp only[oI,e] at h0
 by_cases hn:left - len a<0
 ·simp [hn] at h0
 ·simp only[len] at hn;omega
theorem foldl_push (q:List DC→List DC):∀(l o:Rows),l.foldl (fun o r=>o++[q r]) o=o++l.map q
 | [],o=>by simp
 | r::l,o=>by rw[List.foldl_cons,foldl_push q l,List.map_cons,List.append_assoc];rfl
def TN (k_:Bool→α) (x:Rows) (oy Ps Pt Pu:Int) (Wf:Rows) (oP:Int→Int→Rows→α) (left oN:Int) (all:Rows):α:=
 bif decide (oN<oy) then
  bif Ei true (idx oN x) then
   bif bif decide (rI (nth x (Int.toNat oN)) 1<1) then true else bif decide (left<rI (nth x (Int.toNat oN)) 1) then true else !(nh (rI (nth x (Int.toNat oN)) 0) 0 65535) then k_ false
   else bif Ei true (pY 8 all (rR (nth x (Int.toNat oN)) 2)) then
     oP (nS (left - (rI (nth x (Int.toNat oN)) 1))) (nS (oN+1)) (all++(rR (nth x (Int.toNat oN)) 2))
    else ke
  else ke
 else bif Ei true (OK (⟨Ps,Pt,Pu,Wf⟩:nj) all) then
   k_ ((om (⟨Ps,Pt,Pu,Wf⟩:nj) all).2)
  else ke
def xa (k_:Bool→α) (N:Nat) (x:Rows) (oy Ps Pt Pu:Int) (Wf:Rows) (m_:Nat):Int→Int→Rows→α:=
 Nat.rec (motive:=fun _=>Int→Int→Rows→α) (fun _ _ _=>ke) (fun _ oP=>TN ke k_ x oy Ps Pt Pu Wf oP) m_
theorem nc2 (k_:Bool→α) (N:Nat) (x:Rows) (oy Ps Pt Pu:Int) (Wf:Rows) (m_:Nat):xa ke k_ N x oy Ps Pt Pu Wf (m_+1)=TN ke k_ x oy Ps Pt Pu Wf (xa ke k_ N x oy Ps Pt Pu Wf m_):=rfl
def nc3 {α:Type} (ke:α) (k_:Bool→α) (l0:Rows→Int→Int→Int→Int→Rows→Int→Int→Rows→α) (q:nv):α:=
 bif bif !(sR q.Ring) then true else bif !(qP q.n9) then true else !(nh q.Next 0 65535) then k_ false
 else l0 q.nD (len q.nD) q.n9.oA q.n9.nG q.n9.Count q.n9.oe q.Ring.nG 0 []
def nmk (k_:Bool→α) (N:Nat) (q:nv):α:=nc3 ke k_ (fun x oy Ps Pt Pu Wf=>xa ke k_ N x oy Ps Pt Pu Wf N) q
def npc:Rows→Nat
 | []=>0
 | r::rs=>(rR r 2).length+npc rs
def Rq:Rows→Rows
 | []=>[]
 | r::rs=>rR r 2++Rq rs
def Se:Rows→Int
 | []=>0
 | r::rs=>rI r 1+Se rs
def SX (q:nv):Bool:=decide (q.n9.oe.length≤1048576) && (sm q.nD && decide (npc q.nD≤1048576))
theorem nvx {q:nv} (h:SX q=true):sm q.n9.oe=true∧q.nD.length≤16777216∧npc q.nD≤16777216:=by
 simp only[SX,Bool.and_eq_true,decide_eq_true_eq] at h
 exact⟨decide_eq_true (by omega),sO h.2.1,by omega⟩
def wN (n:Int) (r:List DC):Bool:=bif nh (rI r 1) 1 n then nh (rI r 0) 0 65535 else false
def neW (q:nv):Bool:=bif bif !(sR q.Ring) then true else bif !(qP q.n9) then true else !(nh q.Next 0 65535) then false
 else bif q.nD.all (wN q.Ring.nG) then bif (om q.n9 (Rq q.nD)).2 then decide (Se q.nD≤q.Ring.nG) else false else false
theorem drop_cons {l:Rows} {i:Nat} (h:i<l.length):l.drop i=nth l i::l.drop (i+1):=by
 rw[List.drop_eq_getElem_cons h]
 simp [nth,List.getD_eq_getElem?_getD,h]
theorem neQ {l:Rows} {i:Nat} (h:i<l.length):npc (l.drop i)=(rR (nth l i) 2).length+npc (l.drop (i+1)):=by
 rw[drop_cons h]
 rfl
def txP (n:Int) (r:List DC) (_:Int×Rows):Bool:= !(wN n r)
def txF (r:List DC) (s:Int×Rows):Int×Rows:=(s.1+rI r 1,s.2++rR r 2)
def txQ (r:List DC) (s:Int×Rows):Bool:=bif decide (rI r 1<1) then true else bif decide (s.1<rI r 1) then true else !(nh (rI r 0) 0 65535)
def txG (r:List DC) (s:Int×Rows):Int×Rows:=(s.1 - rI r 1,s.2++rR r 2)
theorem nwK {α:Type} (n:Int) (x:α) (fin:Int×Rows→α):∀(l:Rows) (s:Int×Rows),Tw (txP n) txF x fin l s=bif l.all (wN n) then fin (s.1+Se l,s.2++Rq l) else x
 | [],s=>by simp [Tw,Se,Rq]
 | r::rs,s=>by
  simp only[Tw,txP,List.all_cons]
  cases hs:wN n r
  ·rfl
  ·rw[nwK n x fin rs]
   simp only[Bool.not_true,cond_false,Bool.true_and,txF,Se,Rq,Int.add_assoc,List.append_assoc]
theorem Rg {n:Int} {r:List DC} :wN n r=true↔(1≤rI r 1∧rI r 1≤n)∧nh (rI r 0) 0 65535=true:=by
 unfold wN
 cases h:nh (rI r 1) 1 n
 ·constructor
  ·intro h;cases h
  ·intro h'
   have:nh (rI r 1) 1 n=true:=pA.2 h'.1
   rw[h] at this
   cases this
 ·have:=pA.1 h
  simp only[cond_true]
  exact⟨fun h'=>⟨this,h'⟩,fun h'=>h'.2⟩
theorem nj4 {n:Int} :∀ {l:Rows},l.all (wN n)=true→0≤Se l
 | [],_=>by simp [Se]
 | r::rs,h=>by
  simp only[List.all_cons,Bool.and_eq_true] at h
  have:=nj4 h.2
  have:=(Rg.1 h.1).1
  simp only[Se]
  omega
theorem nvw {α:Type} (n:Int) (x:α) (fin:Rows→α):∀(l:Rows) (s:Int×Rows),s.1≤n→0≤s.1→Tw txQ txG x (fun s=>fin s.2) l s=bif l.all (wN n) then bif decide (Se l≤s.1) then fin (s.2++Rq l) else x else x
 | [],s,h1,h2=>by
  have:decide (Se []≤s.1)=true:=decide_eq_true h2
  simp only[Tw,List.all_nil,cond_true,Rq,List.append_nil,this]
 | r::rs,s,h1,h2=>by
  simp only[Tw,List.all_cons]
  by_cases a1:rI r 1<1
  ·have e:wN n r=false:=by
    cases hs:wN n r
    ·rfl
    ·have:=(Rg.1 hs).1;omega
   rw[e]
   simp only[txQ,decide_eq_true a1,cond_true,Bool.false_and,cond_false]
  ·cases hb:nh (rI r 0) 0 65535
   ·have e:wN n r=false:=by
     cases hs:wN n r
     ·rfl
     ·have:=(Rg.1 hs).2;rw[hb] at this;cases this
    rw[e]
    have:txQ r s=true:=by
     simp only[txQ,decide_eq_false a1,hb,cond_false,Bool.not_false]
     cases decide (s.1<rI r 1)<;>rfl
    rw[this]
    rfl
   ·by_cases a2:s.1<rI r 1
    ·have:txQ r s=true:=by simp only[txQ,decide_eq_false a1,decide_eq_true a2,cond_false,cond_true]
     rw[this,cond_true]
     cases hr:(wN n r && rs.all (wN n))
     ·rfl
     ·simp only[Bool.and_eq_true] at hr
      have:=nj4 hr.2
      rw[cond_true,decide_eq_false (by simp only[Se];omega)]
      rfl
    ·have:txQ r s=false:=by simp only[txQ,decide_eq_false a1,decide_eq_false a2,hb,cond_false,Bool.not_true]
     have e:wN n r=true:=Rg.2 ⟨⟨by omega,by omega⟩,hb⟩
     rw[this,cond_false,e,Bool.true_and]
     have ih:=nvw n x fin rs (txG r s) (by simp only[txG];omega) (by simp only[txG];omega)
     rw[ih]
     have ed:decide (Se rs≤(txG r s).1)=decide (Se (r::rs)≤s.1):=by
      have:Se rs≤(txG r s).1↔Se (r::rs)≤s.1:=by simp only[txG,Se];omega
      exact decide_eq_decide.2 this
     rw[ed]
     simp only[txG,Rq,List.append_assoc]
theorem nt9 (k_:Bool→α) (q:nv) (h_q:kc nv.ct q.enc) (aJ:SX q=true):∃N,nmk ke k_ N q=k_ (neW q):=by
 have hq:SX q=true:=aJ
 obtain⟨hf,hwn,hbn⟩:=nvx hq
 obtain⟨hl,hw⟩:=oJ (nv.Rp h_q)
 refine⟨q.nD.length+1, ?_⟩
 unfold nmk nc3 neW
 refine pH (fun _=>rfl) (fun hg=> ?_)
 have hn:2≤q.Ring.nG∧q.Ring.nG≤16:=by
  cases h1:sR q.Ring
  ·rw[h1] at hg;cases hg
  exact yv h1
 have nxo:∀all:Rows,all.length≤16777216→OK q.n9 all=true:=by
  intro all h
  have:=sO hf
  simp only[OK,hf,Bool.true_and,decide_eq_true_eq]
  omega
 have key:xa ke k_ (q.nD.length+1) q.nD (len q.nD) q.n9.oA q.n9.nG q.n9.Count q.n9.oe (q.nD.length+1) q.Ring.nG 0 []=Tw txQ txG (k_ false) (fun s=>k_ (om q.n9 s.2).2) q.nD (q.Ring.nG,[]):=by
  refine njN q.nD (fun n i (s:Int×Rows)=>xa ke k_ (q.nD.length+1) q.nD (len q.nD) q.n9.oA q.n9.nG q.n9.Count q.n9.oe n s.1 i s.2) txQ txG (k_ false) (fun s=>k_ (om q.n9 s.2).2) (fun i s=>0≤s.1∧s.1≤16∧s.2.length+npc (q.nD.drop i)≤16777216) ?_ ?_ ?_ (q.Ring.nG,[]) ⟨by omega,by omega,by simpa using hbn⟩
  ·intro i s h hi hp
   have hb:=neQ h
   obtain⟨i1,i2,i3⟩:=hi
   have h1:¬rI (nth q.nD i) 1<1:=by
    intro hc;simp only[txQ,decide_eq_true hc,cond_true] at hp;cases hp
   have h2:¬s.1<rI (nth q.nD i) 1:=by
    intro hc;simp only[txQ,decide_eq_false h1,decide_eq_true hc,cond_true,cond_false] at hp;cases hp
   refine⟨by simp only[txG];omega,by simp only[txG];omega, ?_⟩
   simp only[txG,List.length_append]
   omega
  ·intro n i s h hi
   obtain⟨i1,i2,i3⟩:=hi
   have hb:=neQ h
   show xa ke k_ (q.nD.length+1) q.nD (len q.nD) q.n9.oA q.n9.nG q.n9.Count q.n9.oe (n+1) s.1 (i:Int) s.2=_
   rw[nc2]
   have hr:pY 8 s.2 (rR (nth q.nD i) 2)=true:=wM (by omega) (by omega)
   simp only[TN,pw h,nY h,oO h hl,Int.toNat_natCast,ng,nn,cond_true,hr]
   refine cond_congr rfl (fun _=>rfl) (fun hp=> ?_)
   have h1:¬rI (nth q.nD i) 1<1:=by
    intro hc;simp only[decide_eq_true hc,cond_true] at hp;cases hp
   have h2:¬s.1<rI (nth q.nD i) 1:=by
    intro hc;simp only[decide_eq_false h1,decide_eq_true hc,cond_true,cond_false] at hp;cases hp
   rw[nP (n:=s.1 - rI (nth q.nD i) 1) (by omega) (by omega)]
   rfl
  ·intro n s hi
   obtain⟨i1,i2,i3⟩:=hi
   show xa ke k_ (q.nD.length+1) q.nD (len q.nD) q.n9.oA q.n9.nG q.n9.Count q.n9.oe (n+1) s.1 (q.nD.length:Int) s.2=_
   rw[nc2]
   have hg:OK (⟨q.n9.oA,q.n9.nG,q.n9.Count,q.n9.oe⟩:nj) s.2=true:=nxo s.2 (by omega)
   simp only[TN,nX,cond_false,hg,ng,cond_true]
 refine key.trans ?_
 refine (nvw q.Ring.nG (k_ false) (fun all=>k_ (om q.n9 all).2) q.nD (q.Ring.nG,[]) (by simp) (by show 0≤q.Ring.nG;omega)).trans ?_
 simp only[List.nil_append]
 cases q.nD.all (wN q.Ring.nG)
 ·rfl
 ·cases hd:decide (Se q.nD≤q.Ring.nG)
  ·simp only[cond_true,cond_false]
   cases (om q.n9 (Rq q.nD)).2<;>rfl
  ·simp only[cond_true]
   cases (om q.n9 (Rq q.nD)).2<;>rfl
def TQ (k_:Bool→α) (TX Ps Pt Pu:Int) (Wf PM:Rows) (oP:Int→Int→Rows→α) (cb k:Int) (all:Rows):α:=
 bif decide (k<len PM) then
  bif Ei true (idx k PM) then
   bif bif !(nh (rI (nth PM (Int.toNat k)) 1) 1 TX) then true else !(nh (rI (nth PM (Int.toNat k)) 0) 0 65535) then k_ false
   else bif Ei true (pY 8 all (rR (nth PM (Int.toNat k)) 2)) then
     oP (nS (cb+(rI (nth PM (Int.toNat k)) 1))) (nS (k+1)) (all++(rR (nth PM (Int.toNat k)) 2))
    else ke
  else ke
 else bif Ei true (OK (⟨Ps,Pt,Pu,Wf⟩:nj) all) then
   k_ (bif (om (⟨Ps,Pt,Pu,Wf⟩:nj) all).2 then decide (cb≤TX) else false)
  else ke
def xt (k_:Bool→α) (N:Nat) (TX Ps Pt Pu:Int) (Wf PM:Rows) (m_:Nat):Int→Int→Rows→α:=
 Nat.rec (motive:=fun _=>Int→Int→Rows→α) (fun _ _ _=>ke) (fun _ oP=>TQ ke k_ TX Ps Pt Pu Wf PM oP) m_
theorem nei (k_:Bool→α) (N:Nat) (TX Ps Pt Pu:Int) (Wf PM:Rows) (m_:Nat):xt ke k_ N TX Ps Pt Pu Wf PM (m_+1)=TQ ke k_ TX Ps Pt Pu Wf PM (xt ke k_ N TX Ps Pt Pu Wf PM m_):=rfl
def nej {α:Type} (ke:α) (k_:Bool→α) (l0:Int→Int→Int→Int→Rows→Rows→Int→Int→Rows→α) (q:nv):α:=
 bif bif !(sR q.Ring) then true else bif !(qP q.n9) then true else !(nh q.Next 0 65535) then k_ false
 else l0 q.Ring.nG q.n9.oA q.n9.nG q.n9.Count q.n9.oe q.nD 0 0 []
def nmu (k_:Bool→α) (N:Nat) (q:nv):α:=nej ke k_ (fun TX Ps Pt Pu Wf PM=>xt ke k_ N TX Ps Pt Pu Wf PM N) q
theorem nun (k_:Bool→α) (q:nv) (h_q:kc nv.ct q.enc) (aJ:SX q=true):∃N,nmu ke k_ N q=k_ (neW q):=by
 have hq:SX q=true:=aJ
 obtain⟨hf,hwn,hbn⟩:=nvx hq
 obtain⟨hl,hw⟩:=oJ (nv.Rp h_q)
 refine⟨q.nD.length+1, ?_⟩
 unfold nmu nej neW
 refine pH (fun _=>rfl) (fun hg=> ?_)
 have hn:2≤q.Ring.nG∧q.Ring.nG≤16:=by
  cases h1:sR q.Ring
  ·rw[h1] at hg;cases hg
  exact yv h1
 have nxo:∀all:Rows,all.length≤16777216→OK q.n9 all=true:=by
  intro all h
  have:=sO hf
  simp only[OK,hf,Bool.true_and,decide_eq_true_eq]
  omega
 have key:xt ke k_ (q.nD.length+1) q.Ring.nG q.n9.oA q.n9.nG q.n9.Count q.n9.oe q.nD (q.nD.length+1) 0 0 []=Tw (txP q.Ring.nG) txF (k_ false) (fun s=>k_ (bif (om q.n9 s.2).2 then decide (s.1≤q.Ring.nG) else false)) q.nD (0,[]):=by
  refine njN q.nD (fun n i (s:Int×Rows)=>xt ke k_ (q.nD.length+1) q.Ring.nG q.n9.oA q.n9.nG q.n9.Count q.n9.oe q.nD n s.1 i s.2) (txP q.Ring.nG) txF (k_ false) (fun s=>k_ (bif (om q.n9 s.2).2 then decide (s.1≤q.Ring.nG) else false)) (fun i s=>0≤s.1∧s.1≤16*(i:Int)∧s.2.length+npc (q.nD.drop i)≤16777216) ?_ ?_ ?_ (0,[]) ⟨by simp,by simp,by simpa using hbn⟩
  ·intro i s h hi hp
   have hb:=neQ h
   obtain⟨i1,i2,i3⟩:=hi
   have h1:wN q.Ring.nG (nth q.nD i)=true:=by simpa [txP] using hp
   have h2:=(Rg.1 h1).1
   refine⟨by simp only[txF];omega,by simp only[txF];omega, ?_⟩
   simp only[txF,List.length_append]
   omega
  ·intro n i s h hi
   obtain⟨i1,i2,i3⟩:=hi
   have hb:=neQ h
   show xt ke k_ (q.nD.length+1) q.Ring.nG q.n9.oA q.n9.nG q.n9.Count q.n9.oe q.nD (n+1) s.1 (i:Int) s.2=_
   rw[nei]
   have hr:pY 8 s.2 (rR (nth q.nD i) 2)=true:=wM (by omega) (by omega)
   simp only[TQ,pw h,nY h,oO h hl,Int.toNat_natCast,ng,nn,cond_true,hr,txP]
   have hc:(bif !(nh (rI (nth q.nD i) 1) 1 q.Ring.nG) then true else !(nh (rI (nth q.nD i) 0) 0 65535))= !(wN q.Ring.nG (nth q.nD i)):=by
    unfold wN
    cases nh (rI (nth q.nD i) 1) 1 q.Ring.nG<;>rfl
   rw[hc]
   refine cond_congr rfl (fun _=>rfl) (fun hp=> ?_)
   have h1:wN q.Ring.nG (nth q.nD i)=true:=by simpa using hp
   have h2:=(Rg.1 h1).1
   rw[nP (n:=s.1+rI (nth q.nD i) 1) (by omega) (by omega)]
   rfl
  ·intro n s hi
   obtain⟨i1,i2,i3⟩:=hi
   show xt ke k_ (q.nD.length+1) q.Ring.nG q.n9.oA q.n9.nG q.n9.Count q.n9.oe q.nD (n+1) s.1 (q.nD.length:Int) s.2=_
   rw[nei]
   have hg:OK (⟨q.n9.oA,q.n9.nG,q.n9.Count,q.n9.oe⟩:nj) s.2=true:=nxo s.2 (by omega)
   simp only[TQ,nX,cond_false,hg,ng,cond_true]
 refine key.trans ?_
 refine (nwK q.Ring.nG (k_ false) (fun s=>k_ (bif (om q.n9 s.2).2 then decide (s.1≤q.Ring.nG) else false)) q.nD (0,[])).trans ?_
 simp only[List.nil_append,Int.zero_add]
 exact Ka rfl rfl
def Qd (k_:Int→α) (x:Int) (oN:Rows) (oP:Int→Int→α) (n oy:Int):α:=
 bif decide (oy<x) then
  bif Ei (Ei true (idx oy oN)) (inl (Int.toNat oy) oN) then
   bif Ei true (xK (rI (nth oN (Int.toNat oy)) 0) 8) then
    oP (nS (n+(SG (rI (nth oN (Int.toNat oy)) 0) 8))) (nS (oy+1))
   else ke
  else ke
 else k_ (Int.tmod n 8)
def tC (k_:Int→α) (N:Nat) (x:Int) (oN:Rows) (m_:Nat):Int→Int→α:=
 Nat.rec (motive:=fun _=>Int→Int→α) (fun _ _=>ke) (fun _ oP=>Qd ke k_ x oN oP) m_
theorem Ug (k_:Int→α) (N:Nat) (x:Int) (oN:Rows) (m_:Nat):tC ke k_ N x oN (m_+1)=Qd ke k_ x oN (tC ke k_ N x oN m_):=rfl
def Sm {α:Type} (ke:α) (k_:Int→α) (l0:Int→Rows→Int→Int→α) (f:nO):α:=
 l0 5 ([[.int f.Kind],[.int f.pZ],[.int f.qh],[.int f.ox],[.int f.ov]]) 0 0
def naC (k_:Int→α) (N:Nat) (f:nO):α:=Sm ke k_ (fun x oN=>tC ke k_ N x oN N) f
def hmL (f:nO):Rows:=[[.int f.Kind],[.int f.pZ],[.int f.qh],[.int f.ox],[.int f.ov]]
def hmN (f:nO):Int:=f.Kind % 8+f.pZ % 8+f.qh % 8+f.ox % 8+f.ov % 8
def qS (f:nO):Int:=hmN f % 8
theorem nma (f:nO):0≤hmN f:=by unfold hmN;omega
theorem ZW (f:nO):0≤qS f∧qS f<8:=by unfold qS;omega
theorem nl_ (f:nO):itN (fun i s=>s+(rI (nth (hmL f) i) 0) % 8) 5 0 0=hmN f:=by
 show 0+f.Kind % 8+f.pZ % 8+f.qh % 8+f.ox % 8+f.ov % 8=hmN f
 unfold hmN
 omega
theorem nmI (k_:Int→α) (f:nO) (h_f:kc nO.ct f.enc):∃N,naC ke k_ N f=k_ (qS f):=by
 have hb:∀i,i<5→ -9223372036854775808≤rI (nth (hmL f) i) 0∧rI (nth (hmL f) i) 0≤9223372036854775807:=by
  intro i hi
  rcases i with _ | _ | _ | _ | _ | i
  ·exact vn (nO.no3 h_f)
  ·exact vn (nO.nkb h_f)
  ·exact vn (nO.nrC h_f)
  ·exact vn (nO.nh7 h_f)
  ·exact vn (nO.nh6 h_f)
  ·omega
 refine⟨6, ?_⟩
 unfold naC Sm
 have key:tC ke k_ 6 5 (hmL f) 6 0 0=k_ (Int.tmod (itN (fun i s=>s+(rI (nth (hmL f) i) 0) % 8) 5 0 0) 8):=by
  refine yG 5 (fun n i s=>tC ke k_ 6 5 (hmL f) n s i) (fun i s=>s+(rI (nth (hmL f) i) 0) % 8) (fun s=>k_ (Int.tmod s 8)) (fun i s=>0≤s∧s≤7*(i:Int)) ?_ ?_ ?_ 6 0 ⟨by omega,by omega⟩ (by omega)
  ·intro i s hi hs
   obtain⟨h1,h2⟩:=hs
   refine⟨by omega,by omega⟩
  ·intro n i s hi hs
   obtain⟨h1,h2⟩:=hs
   have b:=hb i hi
   show tC ke k_ 6 5 (hmL f) (n+1) s (i:Int)=_
   rw[Ug]
   have hl:i<(hmL f).length:=hi
   have w1:nS ((i:Int)+1)=(i:Int)+1:=nP (by omega) (by omega)
   have w2:nS (s+(rI (nth (hmL f) i) 0) % 8)=s+(rI (nth (hmL f) i) 0) % 8:=nP (by omega) (by omega)
   obtain⟨m1,m2⟩:=QJ (x:=rI (nth (hmL f) i) 0) (n:=8) b.1 b.2 (by omega) (by omega)
   have hd:decide ((i:Int)<5)=true:=decide_eq_true (by omega)
   simp only[Qd,hd,nY hl,qC hl,Int.toNat_natCast,m1,m2,w1,w2,ng,nn,cond_true]
  ·intro n s hs
   show tC ke k_ 6 5 (hmL f) (n+1) s ((5:Nat):Int)=_
   rw[Ug]
   rfl
 refine key.trans ?_
 rw[nl_]
 exact congrArg k_ (Int.tmod_eq_emod_of_nonneg (nma f))
def Rh (k_:Int→α) (na:Rows) (oP:Int→Int→α) (n k:Int):α:=
 bif decide (k<len na) then
  bif Ei (Ei true (idx k na)) (inl (Int.toNat k) na) then
   oP (nS (n+(bits .and .i64 (rI (nth na (Int.toNat k)) 0) 7))) (nS (k+1))
  else ke
 else k_ (Int.tmod n 8)
def tI (k_:Int→α) (N:Nat) (na:Rows) (m_:Nat):Int→Int→α:=
 Nat.rec (motive:=fun _=>Int→Int→α) (fun _ _=>ke) (fun _ oP=>Rh ke k_ na oP) m_
theorem VH (k_:Int→α) (N:Nat) (na:Rows) (m_:Nat):tI ke k_ N na (m_+1)=Rh ke k_ na (tI ke k_ N na m_):=rfl
def SL {α:Type} (ke:α) (k_:Int→α) (l0:Rows→Int→Int→α) (f:nO):α:=
 l0 ([[.int f.Kind],[.int f.pZ],[.int f.qh],[.int f.ox],[.int f.ov]]) 0 0
def nb3 (k_:Int→α) (N:Nat) (f:nO):α:=SL ke k_ (fun na=>tI ke k_ N na N) f
theorem noy (k_:Int→α) (f:nO) (h_f:kc nO.ct f.enc):∃N,nb3 ke k_ N f=k_ (qS f):=by
 have hb:∀i,i<5→ -9223372036854775808≤rI (nth (hmL f) i) 0∧rI (nth (hmL f) i) 0≤9223372036854775807:=by
  intro i hi
  rcases i with _ | _ | _ | _ | _ | i
  ·exact vn (nO.no3 h_f)
  ·exact vn (nO.nkb h_f)
  ·exact vn (nO.nrC h_f)
  ·exact vn (nO.nh7 h_f)
  ·exact vn (nO.nh6 h_f)
  ·omega
 refine⟨6, ?_⟩
 unfold nb3 SL
 have key:tI ke k_ 6 (hmL f) 6 0 0=k_ (Int.tmod (itN (fun i s=>s+(rI (nth (hmL f) i) 0) % 8) 5 0 0) 8):=by
  refine yG 5 (fun n i s=>tI ke k_ 6 (hmL f) n s i) (fun i s=>s+(rI (nth (hmL f) i) 0) % 8) (fun s=>k_ (Int.tmod s 8)) (fun i s=>0≤s∧s≤7*(i:Int)) ?_ ?_ ?_ 6 0 ⟨by omega,by omega⟩ (by omega)
  ·intro i s hi hs
   obtain⟨h1,h2⟩:=hs
   refine⟨by omega,by omega⟩
  ·intro n i s hi hs
   obtain⟨h1,h2⟩:=hs
   have b:=hb i hi
   show tI ke k_ 6 (hmL f) (n+1) s (i:Int)=_
   rw[VH]
   have hl:i<(hmL f).length:=hi
   have w1:nS ((i:Int)+1)=(i:Int)+1:=nP (by omega) (by omega)
   have w2:nS (s+(rI (nth (hmL f) i) 0) % 8)=s+(rI (nth (hmL f) i) 0) % 8:=nP (by omega) (by omega)
   have hd:decide ((i:Int)<len (hmL f))=true:=pw hl
   simp only[Rh,hd,nY hl,qC hl,Int.toNat_natCast,nw9,w1,w2,ng,nn,cond_true]
  ·intro n s hs
   show tI ke k_ 6 (hmL f) (n+1) s ((5:Nat):Int)=_
   rw[VH]
   rfl
 refine key.trans ?_
 rw[nl_]
 exact congrArg k_ (Int.tmod_eq_emod_of_nonneg (nma f))
def O9 (k_:Int→α) (x:Rows) (oy ui wW tw xO xP:Int) (oP:Int→α) (oN:Int):α:=
 bif decide (oN<oy) then
  bif Ei true (idx oN x) then
   bif bif (rI (nth x (Int.toNat oN)) 0)==1 then bif (rI (nth x (Int.toNat oN)) 1)==ui then bif (rI (nth x (Int.toNat oN)) 2)==wW then bif (rI (nth x (Int.toNat oN)) 3)==tw then bif (rI (nth x (Int.toNat oN)) 4)==xO then bif (rI (nth x (Int.toNat oN)) 5)==xP then true else false else false else false else false else false else false then k_ oN
   else oP (nS (oN+1))
  else ke
 else k_ (-1)
def yE (k_:Int→α) (N:Nat) (x:Rows) (oy ui wW tw xO xP:Int) (m_:Nat):Int→α:=
 Nat.rec (motive:=fun _=>Int→α) (fun _=>ke) (fun _ oP=>O9 ke k_ x oy ui wW tw xO xP oP) m_
theorem Yn (k_:Int→α) (N:Nat) (x:Rows) (oy ui wW tw xO xP:Int) (m_:Nat):yE ke k_ N x oy ui wW tw xO xP (m_+1)=O9 ke k_ x oy ui wW tw xO xP (yE ke k_ N x oy ui wW tw xO xP m_):=rfl
def XH {α:Type} (ke:α) (k_:Int→α) (l0:Rows→Int→Int→Int→Int→Int→Int→Int→α) (t:ni) (f:nO):α:=
 l0 t.nH (len t.nH) f.Kind f.pZ f.qh f.ox f.ov 0
def nf0 (k_:Int→α) (N:Nat) (t:ni) (f:nO):α:=XH ke k_ (fun x oy ui wW tw xO xP=>yE ke k_ N x oy ui wW tw xO xP N) t f
def wg (r:List DC) (f:nO):Bool:=bif (rI r 0)==1 then bif (rI r 1)==f.Kind then bif (rI r 2)==f.pZ then bif (rI r 3)==f.qh then bif (rI r 4)==f.ox then bif (rI r 5)==f.ov then true else false else false else false else false else false else false
def nhD (t:ni) (f:nO):Int:=findIdx (fun _ r=>wg r f) t.nH 0
theorem nrX (k_:Int→α) (t:ni) (f:nO) (h_t:kc ni.ct t.enc):∃N,nf0 ke k_ N t f=k_ (nhD t f):=by
 obtain⟨hl,_⟩:=oJ (ni.V_ h_t)
 refine⟨t.nH.length+1, ?_⟩
 unfold nf0 XH nhD
 have key:yE ke k_ (t.nH.length+1) t.nH (len t.nH) f.Kind f.pZ f.qh f.ox f.ov (t.nH.length+1) 0=k_ (findIdx (fun _ r=>wg r f) t.nH 0):=by
  refine (rb t.nH (yE ke k_ (t.nH.length+1) t.nH (len t.nH) f.Kind f.pZ f.qh f.ox f.ov) (fun i r c=>bif wg r f then k_ (i:Int) else c) (k_ (-1)) ?_ ?_).trans ?_
  ·intro n i h
   rw[Yn]
   simp only[O9,pw h,nY h,oO h hl,Int.toNat_natCast,ng,nn,cond_true]
   rfl
  ·intro n
   rw[Yn]
   simp only[O9,nX,cond_false]
  ·exact Qb (fun _ r=>wg r f) k_ t.nH 0
 exact key
def SU (k_:Int→α) (uP:Rows) (ui wW tw xO xP:Int) (oP:Int→α) (k:Int):α:=
 let z0:Int:=Int.tmod (nS ((qS (⟨ui,wW,tw,xO,xP⟩:nO))+k)) 8
 let z1:Bool:=idx z0 uP
 let z2:Bool:=Ei true z1
 let z3:List DC:=nth uP (Int.toNat z0)
 let z4:Int:=rI z3 0
 let z5:Bool:=z4==1
 bif decide (k<8) then
  bif z2 then
   bif z4==0 then k_ (-1)
   else bif L1 z5 (Ei z2 z1) z2 then
     bif bif z5 then bif (rI z3 1)==ui then bif (rI z3 2)==wW then bif (rI z3 3)==tw then bif (rI z3 4)==xO then bif (rI z3 5)==xP then true else false else false else false else false else false else false then k_ z0
     else oP (nS (k+1))
    else ke
  else ke
 else k_ (-1)
def ur (k_:Int→α) (N:Nat) (uP:Rows) (ui wW tw xO xP:Int) (m_:Nat):Int→α:=
 Nat.rec (motive:=fun _=>Int→α) (fun _=>ke) (fun _ oP=>SU ke k_ uP ui wW tw xO xP oP) m_
theorem Xy (k_:Int→α) (N:Nat) (uP:Rows) (ui wW tw xO xP:Int) (m_:Nat):ur ke k_ N uP ui wW tw xO xP (m_+1)=SU ke k_ uP ui wW tw xO xP (ur ke k_ N uP ui wW tw xO xP m_):=rfl
def V1 {α:Type} (ke:α) (k_:Int→α) (l0:Rows→Int→Int→Int→Int→Int→Int→α) (t:ni) (f:nO):α:=
 l0 t.nH f.Kind f.pZ f.qh f.ox f.ov 0
def neo (k_:Int→α) (N:Nat) (t:ni) (f:nO):α:=V1 ke k_ (fun uP ui wW tw xO xP=>ur ke k_ N uP ui wW tw xO xP N) t f
def nvm (t:ni) (_:nO):Bool:=decide (t.nH.length=8)
def ntA (t:Rows) (h:Int) (f:nO):Nat→Nat→Int
 | 0,_=> -1
 | m+1,k=>bif (rI (nth t (Int.toNat ((h+(k:Int)) % 8))) 0)==0 then -1 else bif wg (nth t (Int.toNat ((h+(k:Int)) % 8))) f then (h+(k:Int)) % 8 else ntA t h f m (k+1)
def Z7 (t:ni) (f:nO):Int:=ntA t.nH (qS f) f 8 0
theorem nwv {α:Type} (k_:Int→α) (t:Rows) (h:Int) (f:nO):∀(m i:Nat),nml (σ:=Unit) (fun k c s=>bif (rI (nth t (Int.toNat ((h+(k:Int)) % 8))) 0)==0 then k_ (-1) else bif wg (nth t (Int.toNat ((h+(k:Int)) % 8))) f then k_ ((h+(k:Int)) % 8) else c s) (fun _=>k_ (-1)) m i ()=k_ (ntA t h f m i)
 | 0,_=>rfl
 | m+1,i=>by
  simp only[nml,ntA]
  cases (rI (nth t (Int.toNat ((h+(i:Int)) % 8))) 0)==0
  ·cases wg (nth t (Int.toNat ((h+(i:Int)) % 8))) f
   ·exact nwv k_ t h f m (i+1)
   ·rfl
  ·rfl
theorem nre (k_:Int→α) (t:ni) (f:nO) (aJ:nvm t f=true):∃N,neo ke k_ N t f=k_ (Z7 t f):=by
 have h8:t.nH.length=8:=of_decide_eq_true aJ
 have hh:=ZW f
 refine⟨9, ?_⟩
 unfold neo V1 Z7
 have key:ur ke k_ 9 t.nH f.Kind f.pZ f.qh f.ox f.ov 9 0=k_ (ntA t.nH (qS f) f 8 0):=by
  refine (njM (σ:=Unit) 8 (fun n k _=>ur ke k_ 9 t.nH f.Kind f.pZ f.qh f.ox f.ov n k) (fun k c s=>bif (rI (nth t.nH (Int.toNat ((qS f+(k:Int)) % 8))) 0)==0 then k_ (-1) else bif wg (nth t.nH (Int.toNat ((qS f+(k:Int)) % 8))) f then k_ ((qS f+(k:Int)) % 8) else c s) (fun _=>k_ (-1)) ?_ ?_ 9 () (by omega)).trans (nwv k_ t.nH (qS f) f 8 0)
  ·intro n i s hi
   show ur ke k_ 9 t.nH f.Kind f.pZ f.qh f.ox f.ov (n+1) (i:Int)=_
   rw[Xy]
   have hd:decide ((i:Int)<8)=true:=decide_eq_true (by omega)
   have w1:nS ((i:Int)+1)=(i:Int)+1:=nP (by omega) (by omega)
   have hz:Int.tmod (nS (qS f+(i:Int))) 8=(qS f+(i:Int)) % 8:=by
    rw[nP (by omega) (by omega)]
    exact Int.tmod_eq_emod_of_nonneg (by omega)
   have hx:idx ((qS f+(i:Int)) % 8) t.nH=true:=by
    simp only[idx,Bool.and_eq_true,decide_eq_true_eq,h8]
    omega
   have hf:(⟨f.Kind,f.pZ,f.qh,f.ox,f.ov⟩:nO)=f:=rfl
   unfold SU
   simp only[hf,hd,hz,hx,w1,ng,nn,yK,cond_true]
   rfl
  ·intro n s
   show ur ke k_ 9 t.nH f.Kind f.pZ f.qh f.ox f.ov (n+1) ((8:Nat):Int)=_
   rw[Xy]
   rfl
 exact key
def XI (k_:Rows→α) (ui wW tw xO xP:Int) (oP:Int→Rows→α) (i:Int) (oh:Rows):α:=
 bif decide (i<8) then
  bif Ei true (pY 8 oh ([[.int (Int.tmod (nS ((qS (⟨ui,wW,tw,xO,xP⟩:nO))+i)) 8)]])) then
   oP (nS (i+1)) (oh++([[.int (Int.tmod (nS ((qS (⟨ui,wW,tw,xO,xP⟩:nO))+i)) 8)]]))
  else ke
 else k_ oh
def v7 (k_:Rows→α) (N:Nat) (ui wW tw xO xP:Int) (m_:Nat):Int→Rows→α:=
 Nat.rec (motive:=fun _=>Int→Rows→α) (fun _ _=>ke) (fun _ oP=>XI ke k_ ui wW tw xO xP oP) m_
theorem nbb (k_:Rows→α) (N:Nat) (ui wW tw xO xP:Int) (m_:Nat):v7 ke k_ N ui wW tw xO xP (m_+1)=XI ke k_ ui wW tw xO xP (v7 ke k_ N ui wW tw xO xP m_):=rfl
def Z5 {α:Type} (ke:α) (k_:Rows→α) (l0:Int→Int→Int→Int→Int→Int→Rows→α) (f:nO):α:=
 l0 f.Kind f.pZ f.qh f.ox f.ov 0 []
def niJ (k_:Rows→α) (N:Nat) (f:nO):α:=Z5 ke k_ (fun ui wW tw xO xP=>v7 ke k_ N ui wW tw xO xP N) f
def nw2 (h:Int) (i:Nat) (o:Rows):Rows:=o++[[.int ((h+(i:Int)) % 8)]]
def Ty (f:nO):Rows:=itN (nw2 (qS f)) 8 0 []
theorem ntx (k_:Rows→α) (f:nO):∃N,niJ ke k_ N f=k_ (Ty f):=by
 have hh:=ZW f
 refine⟨9, ?_⟩
 unfold niJ Z5 Ty
 have key:v7 ke k_ 9 f.Kind f.pZ f.qh f.ox f.ov 9 0 []=k_ (itN (nw2 (qS f)) 8 0 []):=by
  refine yG 8 (fun n i o=>v7 ke k_ 9 f.Kind f.pZ f.qh f.ox f.ov n i o) (nw2 (qS f)) k_ (fun i o=>o.length=i) ?_ ?_ ?_ 9 [] rfl (by omega)
  ·intro i o hi ho
   simp only[nw2,List.length_append,List.length_cons,List.length_nil,ho]
  ·intro n i o hi ho
   show v7 ke k_ 9 f.Kind f.pZ f.qh f.ox f.ov (n+1) (i:Int) o=_
   rw[nbb]
   have hd:decide ((i:Int)<8)=true:=decide_eq_true (by omega)
   have w1:nS ((i:Int)+1)=(i:Int)+1:=nP (by omega) (by omega)
   have hz:Int.tmod (nS (qS f+(i:Int))) 8=(qS f+(i:Int)) % 8:=by
    rw[nP (by omega) (by omega)]
    exact Int.tmod_eq_emod_of_nonneg (by omega)
   have hf:(⟨f.Kind,f.pZ,f.qh,f.ox,f.ov⟩:nO)=f:=rfl
   have hr:pY 8 o [[.int ((qS f+(i:Int)) % 8)]]=true:=wM (by simp only[List.length_cons,List.length_nil];omega) (by omega)
   unfold XI
   simp only[hf,hd,hz,hr,w1,ng,nn,cond_true]
   rfl
  ·intro n o ho
   show v7 ke k_ 9 f.Kind f.pZ f.qh f.ox f.ov (n+1) ((8:Nat):Int) o=_
   rw[nbb]
   rfl
 exact key
def xx (k_:Bool→α) (l1:Int→Int→Int→Rows→Int→α) (x:Rows) (oy:Int) (uP:Rows) (oP:Int→α) (oN:Int):α:=
 let z0:Rows:=Ty (nO.nd (nth x (Int.toNat oN)) 1)
 bif decide (oN<oy) then
  bif Ei true (idx oN x) then
   bif bif !(nh (rI (nth x (Int.toNat oN)) 0) 0 2) then true else !(nh (rI (nth x (Int.toNat oN)) 6) 0 3) then k_ false
   else bif (rI (nth x (Int.toNat oN)) 0) != 1 then
    bif bif !(bif (rI (nth x (Int.toNat oN)) 1)==0 then bif (rI (nth x (Int.toNat oN)) 2)==0 then bif (rI (nth x (Int.toNat oN)) 3)==0 then bif (rI (nth x (Int.toNat oN)) 4)==0 then bif (rI (nth x (Int.toNat oN)) 5)==0 then true else false else false else false else false else false) then true else (rI (nth x (Int.toNat oN)) 6) != 0 then k_ false
    else oP (nS (oN+1))
   else bif (nhD (⟨uP⟩:ni) (nO.nd (nth x (Int.toNat oN)) 1)) != oN then k_ false
   else l1 oN oN (len z0) z0 0
  else ke
 else k_ true
def xy (k_:Bool→α) (oP:Int→α) (oN Wg x_6:Int) (uP x_8:Rows) (ih1:Int→α) (x_7:Int):α:=
 bif decide (x_7<x_6) then
  bif Ei (Ei true (idx x_7 x_8)) (inl (Int.toNat x_7) x_8) then
   bif (rI (nth x_8 (Int.toNat x_7)) 0)==oN then oP (nS (Wg+1))
   else bif Ei true (idx (rI (nth x_8 (Int.toNat x_7)) 0) uP) then
     bif (rI (nth uP (Int.toNat (rI (nth x_8 (Int.toNat x_7)) 0))) 0)==0 then k_ false
     else ih1 (nS (x_7+1))
    else ke
  else ke
 else oP (nS (Wg+1))
def uk (k_:Bool→α) (N:Nat) (oP:Int→α) (oN Wg x_6:Int) (uP x_8:Rows) (m_:Nat):Int→α:=
 Nat.rec (motive:=fun _=>Int→α) (fun _=>ke) (fun _ ih1=>xy ke k_ oP oN Wg x_6 uP x_8 ih1) m_
theorem Wz (k_:Bool→α) (N:Nat) (oP:Int→α) (oN Wg x_6:Int) (uP x_8:Rows) (m_:Nat) (x_7:Int):uk ke k_ N oP oN Wg x_6 uP x_8 (m_+1) x_7=xy ke k_ oP oN Wg x_6 uP x_8 (uk ke k_ N oP oN Wg x_6 uP x_8 m_) x_7:=rfl
def tb (k_:Bool→α) (N:Nat) (x:Rows) (oy:Int) (uP:Rows) (m_:Nat):Int→α:=
 Nat.rec (motive:=fun _=>Int→α) (fun _=>ke) (fun _ oP=>xx ke k_ (fun oN Wg x_6 x_8=>uk ke k_ N oP oN Wg x_6 uP x_8 N) x oy uP oP) m_
theorem Wy (k_:Bool→α) (N:Nat) (x:Rows) (oy:Int) (uP:Rows) (m_:Nat) (oN:Int):tb ke k_ N x oy uP (m_+1) oN=xx ke k_ (fun oN Wg x_6 x_8=>uk ke k_ N (tb ke k_ N x oy uP m_) oN Wg x_6 uP x_8 N) x oy uP (tb ke k_ N x oy uP m_) oN:=rfl
def O5 {α:Type} (ke:α) (k_:Bool→α) (l0:Rows→Int→Rows→Int→α) (t:ni):α:=
 bif (len t.nH) != 8 then k_ false
 else l0 t.nH (len t.nH) t.nH 0
def O4 (k_:Bool→α) (N:Nat) (t:ni):α:=O5 ke k_ (fun x oy uP=>tb ke k_ N x oy uP N) t
theorem ZY {p:Nat→List DC→Bool} :∀ {l:Rows} {s:Nat},rh p l s=false→∀i,i<l.length→p (s+i) (nth l i)=false
 | [],_,_,i,h=>by simp at h
 | r::rs,s,h,i,hi=>by
  simp only[rh] at h
  cases hp:p s r
  ·rw[hp,cond_false] at h
   cases i with
   | zero=>exact hp
   | succ i=>
    have:=ZY h i (by simpa using hi)
    rw[show s+(i+1)=s+1+i by omega]
    exact this
  ·rw[hp] at h
   cases h
theorem ngC {p:Nat→List DC→Bool} :∀ {l:Rows} {s:Nat},(∀i,i<l.length→p (s+i) (nth l i)=false)→rh p l s=false
 | [],_,_=>rfl
 | r::rs,s,h=>by
  simp only[rh]
  rw[show p s r=false from h 0 (by simp),cond_false]
  exact ngC (fun i hi=>by
   have:=h (i+1) (by simpa using hi)
   rw[show s+1+i=s+(i+1) by omega]
   exact this)
def nl7 (t:Rows) (i:Int):Rows→Bool
 | []=>false
 | r::rs=>bif (rI r 0)==i then false else bif (rI (nth t (Int.toNat (rI r 0))) 0)==0 then true else nl7 t i rs
theorem nww {α:Type} (t:Rows) (x:Int) (A B:α):∀(l:Rows) (j:Nat),xQ (σ:=Unit) (fun _ r c s=>bif (rI r 0)==x then A else bif (rI (nth t (Int.toNat (rI r 0))) 0)==0 then B else c s) (fun _=>A) l j ()=bif nl7 t x l then B else A
 | [],_=>rfl
 | r::rs,j=>by
  simp only[xQ,nl7]
  cases (rI r 0)==x
  ·cases (rI (nth t (Int.toNat (rI r 0))) 0)==0
   ·exact nww t x A B rs (j+1)
   ·rfl
  ·rfl
def ns5 (r:List DC):Bool:=bif (rI r 1)==0 then bif (rI r 2)==0 then bif (rI r 3)==0 then bif (rI r 4)==0 then bif (rI r 5)==0 then true else false else false else false else false else false
def neG (r:List DC):Bool:=bif !(nh (rI r 0) 0 2) then true else !(nh (rI r 6) 0 3)
def nhC (t:Rows) (i:Nat) (r:List DC):Bool:=bif neG r then true else bif (rI r 0) != 1 then bif !(ns5 r) then true else (rI r 6) != 0 else bif (nhD (⟨t⟩:ni) (nO.nd r 1)) != (i:Int) then true else nl7 t (i:Int) (Ty (nO.nd r 1))
def nqO (t:Rows) (i:Nat) (r:List DC):Bool:=bif neG r then true else bif (rI r 0) != 1 then bif (rI r 6) != 0 then true else !(ns5 r) else (Z7 (⟨t⟩:ni) (nO.nd r 1)) != (i:Int)
def yV (t:ni):Bool:=bif (len t.nH) != 8 then false else bif rh (nhC t.nH) t.nH 0 then false else true
def nvd (t:Rows) (h i:Int):Nat→Nat→Bool
 | 0,_=>false
 | m+1,k=>bif (h+(k:Int)) % 8==i then false else bif (rI (nth t (Int.toNat ((h+(k:Int)) % 8))) 0)==0 then true else nvd t h i m (k+1)
theorem ns0 (t:Rows) (i:Int) (f:nO):nl7 t i (Ty f)=nvd t (qS f) i 8 0:=rfl
theorem V8 {r:List DC} {f:nO} :wg r f=true↔rI r 0=1∧nO.nd r 1=f:=by
 cases f with
 | mk a b c d e=>
  simp only[wg,nO.nd,nO.mk.injEq]
  by_cases h0:rI r 0=1
  ·by_cases h1:rI r 1=a
   ·by_cases h2:rI r 2=b
    ·by_cases h3:rI r 3=c
     ·by_cases h4:rI r 4=d
      ·by_cases h5:rI r 5=e
       ·simp [h0,h1,h2,h3,h4,h5]
       ·simp [h0,h1,h2,h3,h4,h5]
      ·simp [h0,h1,h2,h3,h4]
     ·simp [h0,h1,h2,h3]
    ·simp [h0,h1,h2]
   ·simp [h0,h1]
  ·simp [h0]
theorem nut {r:List DC} (h:rI r 0=1):wg r (nO.nd r 1)=true:=V8.2 ⟨h,rfl⟩
theorem nuu {t:Rows} {h:Int} {f:nO} {i:Nat} (hi:i<8) (h1:rI (nth t i) 0=1) (hf:nO.nd (nth t i) 1=f)
  (hu:∀j,j<8→wg (nth t j) f=true→j=i):∀(m k:Nat),(∃d,d<m∧(h+(k:Int)+(d:Int)) % 8=(i:Int))→nvd t h (i:Int) m k=false→ntA t h f m k=(i:Int)
 | 0,k,⟨d,hd,_⟩,_=>by omega
 | m+1,k,⟨d,hd,he⟩,hw=>by
  unfold ntA
  unfold nvd at hw
  by_cases hk:(h+(k:Int)) % 8=(i:Int)
  ·rw[hk,Int.toNat_natCast]
   have e0:((rI (nth t i) 0)==0)=false:=by rw[h1];rfl
   rw[e0,V8.2 ⟨h1,hf⟩]
   rfl
  ·have e1:((h+(k:Int)) % 8==(i:Int))=false:=by simpa using hk
   rw[e1,cond_false] at hw
   cases e0:(rI (nth t (Int.toNat ((h+(k:Int)) % 8))) 0)==0
   ·rw[e0,cond_false] at hw
    cases e2:wg (nth t (Int.toNat ((h+(k:Int)) % 8))) f
    ·simp only[cond_false]
     refine nuu hi h1 hf hu m (k+1) ⟨d - 1, ?_, ?_⟩ hw
     ·rcases d with _ | d
      ·exact absurd (by simpa using he) hk
      ·omega
     ·rcases d with _ | d
      ·exact absurd (by simpa using he) hk
      ·rw[←he]
       congr 1
       omega
    ·have:=hu _ (by omega) e2
     exact absurd (by omega) hk
   ·rw[e0] at hw
    cases hw
theorem nt5 {t:Rows} {h:Int} {f:nO} {i:Nat} :∀(m k:Nat),ntA t h f m k=(i:Int)→nvd t h (i:Int) m k=false
 | 0,_,_=>rfl
 | m+1,k,hl=>by
  unfold ntA at hl
  unfold nvd
  cases e1:((h+(k:Int)) % 8==(i:Int))
  ·cases e0:(rI (nth t (Int.toNat ((h+(k:Int)) % 8))) 0)==0
   ·rw[e0,cond_false] at hl
    cases e2:wg (nth t (Int.toNat ((h+(k:Int)) % 8))) f
    ·rw[e2,cond_false] at hl
     exact nt5 m (k+1) hl
    ·rw[e2,cond_true] at hl
     have:((h+(k:Int)) % 8==(i:Int))=true:=by simpa using hl
     rw[e1] at this
     cases this
   ·rw[e0,cond_true] at hl
    omega
  ·rfl
theorem nvu {t:Rows} {i:Nat} (h:i<t.length) (h1:rI (nth t i) 0=1):(nhD (⟨t⟩:ni) (nO.nd (nth t i) 1) != (i:Int))=yt (fun j=>wg (nth t j) (nO.nd (nth t i) 1)) i 0:=by
 have:=ngD (fun _ r=>wg r (nO.nd (nth t i) 1)) t 0 i h (nut h1)
 rw[Nat.zero_add] at this
 exact this
theorem T4 {p:Nat→Bool} :∀ {m s:Nat},yt p m s=false↔∀j,s≤j→j<s+m→p j=false
 | 0,s=>by simp only[yt,true_iff];intro j h1 h2;omega
 | m+1,s=>by
  simp only[yt]
  cases hp:p s
  ·simp only[cond_false]
   rw[T4]
   constructor
   ·intro h j h1 h2
    by_cases hj:j=s
    ·rw[hj];exact hp
    ·exact h j (by omega) (by omega)
   ·intro h j h1 h2
    exact h j (by omega) (by omega)
  ·simp only[cond_true]
   constructor
   ·intro h;cases h
   ·intro h
    have:=h s (by omega) (by omega)
    rw[hp] at this
    cases this
theorem nvL {t:Rows} (h8:t.length=8):rh (nqO t) t 0=rh (nhC t) t 0:=by
 have zc:∀r:List DC,(bif !(ns5 r) then true else (rI r 6) != 0)=(bif (rI r 6) != 0 then true else !(ns5 r)):=by
  intro r
  cases ns5 r<;>cases ((rI r 6) != 0)<;>rfl
 have sI:∀i,nhC t i (nth t i)=false→rI (nth t i) 0=1→neG (nth t i)=false∧yt (fun j=>wg (nth t j) (nO.nd (nth t i) 1)) i 0=false∧nvd t (qS (nO.nd (nth t i) 1)) (i:Int) 8 0=false∨¬i<t.length:=by
  intro i h h1
  by_cases hi:i<t.length
  ·left
   unfold nhC at h
   have e1:((rI (nth t i) 0) != 1)=false:=by rw[h1];rfl
   rw[e1,nvu hi h1,ns0] at h
   cases hs:neG (nth t i)
   ·rw[hs] at h
    simp only[cond_false] at h
    refine⟨rfl, ?_⟩
    cases ha:yt (fun j=>wg (nth t j) (nO.nd (nth t i) 1)) i 0
    ·rw[ha,cond_false] at h
     exact⟨rfl,h⟩
    ·rw[ha] at h;cases h
   ·rw[hs] at h;cases h
  ·exact .inr hi
 have sS:∀i,i<t.length→nqO t i (nth t i)=false→rI (nth t i) 0=1→neG (nth t i)=false∧Z7 (⟨t⟩:ni) (nO.nd (nth t i) 1)=(i:Int):=by
  intro i hi h h1
  unfold nqO at h
  have e1:((rI (nth t i) 0) != 1)=false:=by rw[h1];rfl
  rw[e1] at h
  cases hs:neG (nth t i)
  ·rw[hs] at h
   simp only[cond_false] at h
   exact⟨rfl,by simpa using h⟩
  ·rw[hs] at h;cases h
 cases hI:rh (nhC t) t 0
 ·have hI:=ZY hI
  simp only[Nat.zero_add] at hI
  refine ngC (fun i hi=> ?_)
  rw[Nat.zero_add]
  by_cases h1:rI (nth t i) 0=1
  ·rcases sI i (hI i hi) h1 with ⟨a,b,c⟩ | h
   ·have hu:∀j,j<8→wg (nth t j) (nO.nd (nth t i) 1)=true→j=i:=by
     intro j hj hq
     obtain⟨j1,j2⟩:=V8.1 hq
     rcases Nat.lt_trichotomy j i with cr | rfl | F1
     ·have:=T4.1 b j (by omega) (by omega)
      rw[hq] at this
      cases this
     ·rfl
     ·rcases sI j (hI j (by omega)) j1 with ⟨_,b',_⟩ | h
      ·have:=T4.1 b' i (by omega) (by omega)
       rw[V8.2 ⟨h1,j2.symm⟩] at this
       cases this
      ·omega
    have hf:Z7 (⟨t⟩:ni) (nO.nd (nth t i) 1)=(i:Int):=by
     have hh:=ZW (nO.nd (nth t i) 1)
     refine nuu (by omega) h1 rfl hu 8 0 ⟨(((i:Int) - qS (nO.nd (nth t i) 1)) % 8).toNat,by omega,by omega⟩ c
    unfold nqO
    rw[a,hf,h1]
    simp
   ·exact absurd hi h
  ·have:=hI i hi
   unfold nhC at this
   unfold nqO
   have e1:((rI (nth t i) 0) != 1)=true:=by simpa using h1
   rw[e1] at this ⊢
   rw[zc] at this
   exact this
 ·cases hS:rh (nqO t) t 0
  ·have hS:=ZY hS
   simp only[Nat.zero_add] at hS
   have:rh (nhC t) t 0=false:=by
    refine ngC (fun i hi=> ?_)
    rw[Nat.zero_add]
    by_cases h1:rI (nth t i) 0=1
    ·obtain⟨a,b⟩:=sS i hi (hS i hi) h1
     have hu:yt (fun j=>wg (nth t j) (nO.nd (nth t i) 1)) i 0=false:=by
      refine T4.2 (fun j _ hj=> ?_)
      cases hq:wg (nth t j) (nO.nd (nth t i) 1)
      ·rfl
      ·obtain⟨j1,j2⟩:=V8.1 hq
       have:=(sS j (by omega) (hS j (by omega)) j1).2
       rw[j2,b] at this
       omega
     unfold nhC
     have e1:((rI (nth t i) 0) != 1)=false:=by rw[h1];rfl
     rw[a,e1,nvu hi h1,hu,ns0,nt5 8 0 b]
     rfl
    ·have:=hS i hi
     unfold nqO at this
     unfold nhC
     have e1:((rI (nth t i) 0) != 1)=true:=by simpa using h1
     rw[e1] at this ⊢
     rw[zc]
     exact this
   rw[hI] at this
   cases this
  ·rfl
theorem npD (k_:Bool→α) (t:ni) (h_t:kc ni.ct t.enc):∃N,O4 ke k_ N t=k_ (yV t):=by
 obtain⟨hl,_⟩:=oJ (ni.V_ h_t)
 refine⟨t.nH.length+9, ?_⟩
 unfold O4 O5 yV
 refine pH (fun _=>rfl) (fun hg=> ?_)
 have h8:t.nH.length=8:=by
  have:len t.nH=8:=by simpa using hg
  simp only[len] at this
  omega
 have key:tb ke k_ (t.nH.length+9) t.nH (len t.nH) t.nH (t.nH.length+9) 0=bif rh (nhC t.nH) t.nH 0 then k_ false else k_ true:=by
  refine (xi t.nH (tb ke k_ (t.nH.length+9) t.nH (len t.nH) t.nH) (fun i r c=>bif nhC t.nH i r then k_ false else c) (k_ true) ?_ ?_ (t.nH.length+9) (by omega)).trans (yY (nhC t.nH) (k_ false) (k_ true) t.nH 0)
  ·intro n i h
   rw[Wy]
   have hc:∀z:Int,rI (nth t.nH i) 0=z→True:=fun _ _=>trivial
   have hw8:(Ty (nO.nd (nth t.nH i) 1)).length=8:=rfl
   have inner:∀ih:Int→α,uk ke k_ (t.nH.length+9) ih (i:Int) (i:Int) (len (Ty (nO.nd (nth t.nH i) 1))) t.nH (Ty (nO.nd (nth t.nH i) 1)) (t.nH.length+9) 0=bif nl7 t.nH (i:Int) (Ty (nO.nd (nth t.nH i) 1)) then k_ false else ih ((i:Int)+1):=by
    intro ih
    refine (xi (Ty (nO.nd (nth t.nH i) 1)) (uk ke k_ (t.nH.length+9) ih (i:Int) (i:Int) (len (Ty (nO.nd (nth t.nH i) 1))) t.nH (Ty (nO.nd (nth t.nH i) 1))) (fun j r c=>bif (rI r 0)==(i:Int) then ih ((i:Int)+1) else bif (rI (nth t.nH (Int.toNat (rI r 0))) 0)==0 then k_ false else c) (ih ((i:Int)+1)) ?_ ?_ (t.nH.length+9) (by omega)).trans (nww t.nH (i:Int) (ih ((i:Int)+1)) (k_ false) (Ty (nO.nd (nth t.nH i) 1)) 0)
    ·intro n j hj
     rw[Wz]
     have hx:idx (rI (nth (Ty (nO.nd (nth t.nH i) 1)) j) 0) t.nH=true:=by
      have:rI (nth (Ty (nO.nd (nth t.nH i) 1)) j) 0=(qS (nO.nd (nth t.nH i) 1)+(j:Int)) % 8:=by
       rw[hw8] at hj
       rcases j with _ | _ | _ | _ | _ | _ | _ | _ | j
       all_goals first | rfl | omega
      rw[this]
      simp only[idx,Bool.and_eq_true,decide_eq_true_eq,h8]
      omega
     have w1:nS ((i:Int)+1)=(i:Int)+1:=oO h hl
     have w2:nS ((j:Int)+1)=(j:Int)+1:=nP (by omega) (by omega)
     simp only[xy,pw hj,nY hj,qC hj,hx,w1,w2,Int.toNat_natCast,ng,nn,cond_true]
    ·intro n
     rw[Wz]
     simp only[xy,nX,cond_false,oO h hl]
   unfold xx
   simp only[inner,pw h,nY h,oO h hl,Int.toNat_natCast,ng,nn,cond_true]
   unfold nhC
   show (bif neG (nth t.nH i) then k_ false else _)=_
   cases neG (nth t.nH i)
   ·simp only[cond_false]
    cases ((rI (nth t.nH i) 0) != 1)
    ·simp only[cond_false]
     cases (nhD (⟨t.nH⟩:ni) (nO.nd (nth t.nH i) 1) != (i:Int))<;>rfl
    ·rfl
   ·rfl
  ·intro n
   rw[Wy]
   simp only[xx,nX,cond_false]
 refine key.trans ?_
 exact Ka rfl rfl
def NR (k_:Bool→α) (uP:Rows) (oP:Int→α) (k:Int):α:=
 bif decide (k<len uP) then
  bif Ei true (idx k uP) then
   bif bif !(nh (rI (nth uP (Int.toNat k)) 0) 0 2) then true else !(nh (rI (nth uP (Int.toNat k)) 6) 0 3) then k_ false
   else bif (rI (nth uP (Int.toNat k)) 0) != 1 then
    bif bif (rI (nth uP (Int.toNat k)) 6) != 0 then true else !(bif (rI (nth uP (Int.toNat k)) 1)==0 then bif (rI (nth uP (Int.toNat k)) 2)==0 then bif (rI (nth uP (Int.toNat k)) 3)==0 then bif (rI (nth uP (Int.toNat k)) 4)==0 then bif (rI (nth uP (Int.toNat k)) 5)==0 then true else false else false else false else false else false) then k_ false
    else oP (nS (k+1))
   else bif Ei true (nvm (⟨uP⟩:ni) (nO.nd (nth uP (Int.toNat k)) 1)) then
     bif (Z7 (⟨uP⟩:ni) (nO.nd (nth uP (Int.toNat k)) 1)) != k then k_ false
     else oP (nS (k+1))
    else ke
  else ke
 else k_ true
def xF (k_:Bool→α) (N:Nat) (uP:Rows) (m_:Nat):Int→α:=
 Nat.rec (motive:=fun _=>Int→α) (fun _=>ke) (fun _ oP=>NR ke k_ uP oP) m_
theorem Xx (k_:Bool→α) (N:Nat) (uP:Rows) (m_:Nat):xF ke k_ N uP (m_+1)=NR ke k_ uP (xF ke k_ N uP m_):=rfl
def VV {α:Type} (ke:α) (k_:Bool→α) (l0:Rows→Int→α) (t:ni):α:=
 bif (len t.nH) != 8 then k_ false
 else l0 t.nH 0
def nef (k_:Bool→α) (N:Nat) (t:ni):α:=VV ke k_ (fun uP=>xF ke k_ N uP N) t
theorem nq9 (k_:Bool→α) (t:ni) (h_t:kc ni.ct t.enc):∃N,nef ke k_ N t=k_ (yV t):=by
 obtain⟨hl,_⟩:=oJ (ni.V_ h_t)
 refine⟨t.nH.length+1, ?_⟩
 unfold nef VV yV
 refine pH (fun _=>rfl) (fun hg=> ?_)
 have h8:t.nH.length=8:=by
  have:len t.nH=8:=by simpa using hg
  simp only[len] at this
  omega
 have key:xF ke k_ (t.nH.length+1) t.nH (t.nH.length+1) 0=bif rh (nqO t.nH) t.nH 0 then k_ false else k_ true:=by
  refine (rb t.nH (xF ke k_ (t.nH.length+1) t.nH) (fun i r c=>bif nqO t.nH i r then k_ false else c) (k_ true) ?_ ?_).trans (yY (nqO t.nH) (k_ false) (k_ true) t.nH 0)
  ·intro n i h
   rw[Xx]
   have ho:nvm (⟨t.nH⟩:ni) (nO.nd (nth t.nH i) 1)=true:=decide_eq_true h8
   simp only[NR,ho,pw h,nY h,oO h hl,Int.toNat_natCast,ng,nn,cond_true]
   unfold nqO
   show (bif neG (nth t.nH i) then k_ false else _)=_
   cases neG (nth t.nH i)
   ·simp only[cond_false]
    cases ((rI (nth t.nH i) 0) != 1)
    ·rfl
    ·rfl
   ·rfl
  ·intro n
   rw[Xx]
   simp only[NR,nX,cond_false]
 refine key.trans ?_
 rw[nvL h8]
 exact Ka rfl rfl
def y_ (k_:Bool→α) (ny:Int) (x:Rows) (oy:Int) (oP:Int→α) (oN:Int):α:=
 bif decide (oN<oy) then
  bif Ei true (idx oN x) then
   bif !(nh (rI (nth x (Int.toNat oN)) 0) 0 (nS (ny - 1))) then k_ false
   else oP (nS (oN+1))
  else ke
 else k_ true
def wJ (k_:Bool→α) (N:Nat) (ny:Int) (x:Rows) (oy:Int) (m_:Nat):Int→α:=
 Nat.rec (motive:=fun _=>Int→α) (fun _=>ke) (fun _ oP=>y_ ke k_ ny x oy oP) m_
theorem Ul (k_:Bool→α) (N:Nat) (ny:Int) (x:Rows) (oy:Int) (m_:Nat):wJ ke k_ N ny x oy (m_+1)=y_ ke k_ ny x oy (wJ ke k_ N ny x oy m_):=rfl
def Sp {α:Type} (ke:α) (k_:Bool→α) (l0:Rows→Int→Int→α) (s:nI) (ny:Int):α:=
 bif bif !(nh ny 1 4) then true else bif (len s.Key) != 16 then true else !(ZT (len s.Table)) then k_ false
 else l0 s.Table (len s.Table) 0
def naR (k_:Bool→α) (N:Nat) (s:nI) (ny:Int):α:=Sp ke k_ (fun x oy=>wJ ke k_ N ny x oy N) s ny
def yx (s:nI) (ny:Int):Bool:=bif bif !(nh ny 1 4) then true else bif (len s.Key) != 16 then true else !(ZT (len s.Table)) then false
 else s.Table.all (fun r=>nh (rI r 0) 0 (nS (ny - 1)))
theorem nmT (k_:Bool→α) (s:nI) (ny:Int) (yZ:kc nI.ct s.enc):∃N,naR ke k_ N s ny=k_ (yx s ny):=by
 obtain⟨hl,_⟩:=oJ (nI.Wa yZ)
 refine⟨s.Table.length+1, ?_⟩
 unfold naR Sp yx
 refine pH (fun _=>rfl) (fun _=> ?_)
 have key:wJ ke k_ (s.Table.length+1) ny s.Table (len s.Table) (s.Table.length+1) 0=bif s.Table.all (fun r=>nh (rI r 0) 0 (nS (ny - 1))) then k_ true else k_ false:=by
  refine (rb s.Table (wJ ke k_ (s.Table.length+1) ny s.Table (len s.Table)) (fun i r c=>bif !(nh (rI r 0) 0 (nS (ny - 1))) then k_ false else c) (k_ true) ?_ ?_).trans (Rr (fun r=>nh (rI r 0) 0 (nS (ny - 1))) (k_ false) (k_ true) s.Table 0)
  ·intro n i h
   rw[Ul]
   simp only[y_,pw h,nY h,oO h hl,Int.toNat_natCast,ng,nn,cond_true]
  ·intro n
   rw[Ul]
   simp only[y_,nX,cond_false]
 refine key.trans ?_
 cases s.Table.all (fun r=>nh (rI r 0) 0 (nS (ny - 1)))<;>rfl
def zF (k_:Bool→α) (ny:Int) (sB:Rows) (oP:Int→α) (k:Int):α:=
 bif decide (k<len sB) then
  bif Ei true (idx k sB) then
   bif !(nh (rI (nth sB (Int.toNat k)) 0) 0 (nS (ny - 1))) then k_ false
   else oP (nS (k+1))
  else ke
 else k_ true
def wO (k_:Bool→α) (N:Nat) (ny:Int) (sB:Rows) (m_:Nat):Int→α:=
 Nat.rec (motive:=fun _=>Int→α) (fun _=>ke) (fun _ oP=>zF ke k_ ny sB oP) m_
theorem VP (k_:Bool→α) (N:Nat) (ny:Int) (sB:Rows) (m_:Nat):wO ke k_ N ny sB (m_+1)=zF ke k_ ny sB (wO ke k_ N ny sB m_):=rfl
def SQ {α:Type} (ke:α) (k_:Bool→α) (l0:Rows→Int→α) (s:nI) (ny:Int):α:=
 bif bif !(nh ny 1 4) then true else bif (len s.Key) != 16 then true else !(ZT (len s.Table)) then k_ false
 else l0 s.Table 0
def nce (k_:Bool→α) (N:Nat) (s:nI) (ny:Int):α:=SQ ke k_ (fun sB=>wO ke k_ N ny sB N) s ny
theorem noH (k_:Bool→α) (s:nI) (ny:Int) (yZ:kc nI.ct s.enc):∃N,nce ke k_ N s ny=k_ (yx s ny):=by
 obtain⟨hl,_⟩:=oJ (nI.Wa yZ)
 refine⟨s.Table.length+1, ?_⟩
 unfold nce SQ yx
 refine pH (fun _=>rfl) (fun _=> ?_)
 have key:wO ke k_ (s.Table.length+1) ny s.Table (s.Table.length+1) 0=bif s.Table.all (fun r=>nh (rI r 0) 0 (nS (ny - 1))) then k_ true else k_ false:=by
  refine (rb s.Table (wO ke k_ (s.Table.length+1) ny s.Table) (fun i r c=>bif !(nh (rI r 0) 0 (nS (ny - 1))) then k_ false else c) (k_ true) ?_ ?_).trans (Rr (fun r=>nh (rI r 0) 0 (nS (ny - 1))) (k_ false) (k_ true) s.Table 0)
  ·intro n i h
   rw[VP]
   simp only[zF,pw h,nY h,oO h hl,Int.toNat_natCast,ng,nn,cond_true]
  ·intro n
   rw[VP]
   simp only[zF,nX,cond_false]
 refine key.trans ?_
 cases s.Table.all (fun r=>nh (rI r 0) 0 (nS (ny - 1)))<;>rfl
def u4 (k_:Bool→α) (l1:Int→Int→α) (ny:Int) (x:Rows) (oy:Int) (sB:Rows) (oP:Int→α) (oN:Int):α:=
 bif decide (oN<oy) then
  bif Ei true (idx oN x) then
   bif bif (rI (nth x (Int.toNat oN)) 7)==0 then decide (ny≤rI (nth x (Int.toNat oN)) 8) else false then k_ false
   else oP (nS (oN+1))
  else ke
 else l1 (len sB) 0
def u_ (k_:Bool→α) (ny:Int) (sB:Rows) (Sh:Int) (ih1:Int→α) (Wg:Int):α:=
 bif decide (Wg<Sh) then
  bif Ei true (idx Wg sB) then
   bif bif (rI (nth sB (Int.toNat Wg)) 0)==1 then decide (ny≤rI (nth sB (Int.toNat Wg)) 6) else false then k_ false
   else ih1 (nS (Wg+1))
  else ke
 else k_ true
def sG (k_:Bool→α) (N:Nat) (ny:Int) (sB:Rows) (Sh:Int) (m_:Nat):Int→α:=
 Nat.rec (motive:=fun _=>Int→α) (fun _=>ke) (fun _ ih1=>u_ ke k_ ny sB Sh ih1) m_
theorem RZ (k_:Bool→α) (N:Nat) (ny:Int) (sB:Rows) (Sh:Int) (m_:Nat):sG ke k_ N ny sB Sh (m_+1)=u_ ke k_ ny sB Sh (sG ke k_ N ny sB Sh m_):=rfl
def sF (k_:Bool→α) (N:Nat) (ny:Int) (x:Rows) (oy:Int) (sB:Rows) (m_:Nat):Int→α:=
 Nat.rec (motive:=fun _=>Int→α) (fun _=>ke) (fun _ oP=>u4 ke k_ (fun Sh=>sG ke k_ N ny sB Sh N) ny x oy sB oP) m_
theorem RY (k_:Bool→α) (N:Nat) (ny:Int) (x:Rows) (oy:Int) (sB:Rows) (m_:Nat) (oN:Int):sF ke k_ N ny x oy sB (m_+1) oN=u4 ke k_ (fun Sh=>sG ke k_ N ny sB Sh N) ny x oy sB (sF ke k_ N ny x oy sB m_) oN:=rfl
def xV {α:Type} (ke:α) (k_:Bool→α) (l0:Rows→Int→Rows→Int→α) (s:nm) (ny:Int):α:=
 bif bif !(TB s.oM) then true else bif !(yV s.Table) then true else !(yx s.oa ny) then k_ false
 else l0 s.oM (len s.oM) s.Table.nH 0
def xU (k_:Bool→α) (N:Nat) (s:nm) (ny:Int):α:=xV ke k_ (fun x oy sB=>sF ke k_ N ny x oy sB N) s ny
def rT (s:nm) (ny:Int):Bool:=bif bif !(TB s.oM) then true else bif !(yV s.Table) then true else !(yx s.oa ny) then false
 else bif s.oM.all (fun r=> !(decide (ny≤rI r 8))) then s.Table.nH.all (fun r=> !(decide (ny≤rI r 6))) else false
theorem ngA {p q:List DC→Bool} :∀ {l:Rows},(∀r∈l,p r=q r)→l.all p=l.all q
 | [],_=>rfl
 | r::rs,h=>by
  simp only[List.all_cons]
  rw[h r (by simp),ngA (fun x hx=>h x (by simp [hx]))]
theorem nt2 {r:List DC} (h:Qa (pN.nd r 0)=true) (h7:rI r 7≠0):rI r 8=0:=by
 unfold Qa XD at h
 simp only[id] at h
 have e7:((pN.nd r 0).Action==0)=false:=by
  show (rI r 7==0)=false
  simpa using h7
 rw[e7] at h
 simp only[cond_false] at h
 by_cases h1:rI r 8=0
 ·exact h1
 ·have e8:((pN.nd r 0).Queue==0)=false:=by
   show (rI r 8==0)=false
   simpa using h1
  rw[e8] at h
  revert h
  cases (pN.nd r 0).Action==1<;>simp
theorem ns_ {t:ni} (h:yV t=true) {r:List DC} (hr:r∈t.nH) (h0:rI r 0≠1):rI r 6=0:=by
 unfold yV at h
 cases h1:(len t.nH) != 8
 ·rw[h1,cond_false] at h
  cases h2:rh (nhC t.nH) t.nH 0
  ·obtain⟨i,hi,rfl⟩:=List.getElem_of_mem hr
   have:=ZY h2 i hi
   rw[Nat.zero_add] at this
   have hn:nth t.nH i=t.nH[i]:=by simp [nth,List.getD_eq_getElem?_getD,hi]
   rw[hn] at this
   unfold nhC at this
   have e1:((rI t.nH[i] 0) != 1)=true:=by simpa using h0
   rw[e1] at this
   by_cases h6:rI t.nH[i] 6=0
   ·exact h6
   ·have e6:((rI t.nH[i] 6) != 0)=true:=by simpa using h6
    rw[e6] at this
    revert this
    cases neG t.nH[i]<;>cases ns5 t.nH[i]<;>simp
  ·rw[h2] at h;cases h
 ·rw[h1] at h;cases h
theorem nkc {s:nm} {ny:Int} (hg:(bif !(TB s.oM) then true else bif !(yV s.Table) then true else !(yx s.oa ny))=false):
  (∀r∈s.oM,Qa (pN.nd r 0)=true)∧yV s.Table=true∧1≤ny:=by
 cases h1:TB s.oM
 ·rw[h1] at hg;cases hg
 cases h2:yV s.Table
 ·rw[h1,h2] at hg;cases hg
 cases h3:yx s.oa ny
 ·rw[h1,h2,h3] at hg;cases hg
 refine⟨?_,rfl, ?_⟩
 ·unfold TB at h1
  cases h4:s.oM.all (fun r=>Qa (pN.nd r 0))
  ·rw[h4] at h1;cases h1
  ·exact fun r hr=>by simpa using List.all_eq_true.1 h4 r hr
 ·unfold yx at h3
  cases h4:nh ny 1 4
  ·rw[h4] at h3;cases h3
  ·exact (pA.1 h4).1
theorem niv (k_:Bool→α) (s:nm) (ny:Int) (yZ:kc nm.ct s.enc):∃N,xU ke k_ N s ny=k_ (rT s ny):=by
 obtain⟨hl,_⟩:=oJ (nm.nrD yZ)
 obtain⟨j_,_⟩:=oJ (ni.V_ (nm.Wa yZ))
 refine⟨s.oM.length+s.Table.nH.length+1, ?_⟩
 unfold xU xV rT
 refine pH (fun _=>rfl) (fun hg=> ?_)
 have nu2:sG ke k_ (s.oM.length+s.Table.nH.length+1) ny s.Table.nH (len s.Table.nH) (s.oM.length+s.Table.nH.length+1) 0=bif s.Table.nH.all (fun r=> !(bif (rI r 0)==1 then decide (ny≤rI r 6) else false)) then k_ true else k_ false:=by
  refine (xi s.Table.nH (sG ke k_ (s.oM.length+s.Table.nH.length+1) ny s.Table.nH (len s.Table.nH)) (fun i r c=>bif !(!(bif (rI r 0)==1 then decide (ny≤rI r 6) else false)) then k_ false else c) (k_ true) ?_ ?_ (s.oM.length+s.Table.nH.length+1) (by omega)).trans (Rr (fun r=> !(bif (rI r 0)==1 then decide (ny≤rI r 6) else false)) (k_ false) (k_ true) s.Table.nH 0)
  ·intro n i h
   rw[RZ]
   simp only[u_,pw h,nY h,oO h j_,Int.toNat_natCast,ng,nn,cond_true,Bool.not_not]
  ·intro n
   rw[RZ]
   simp only[u_,nX,cond_false]
 have key:sF ke k_ (s.oM.length+s.Table.nH.length+1) ny s.oM (len s.oM) s.Table.nH (s.oM.length+s.Table.nH.length+1) 0=bif s.oM.all (fun r=> !(bif (rI r 7)==0 then decide (ny≤rI r 8) else false)) then (bif s.Table.nH.all (fun r=> !(bif (rI r 0)==1 then decide (ny≤rI r 6) else false)) then k_ true else k_ false) else k_ false:=by
  refine (xi s.oM (sF ke k_ (s.oM.length+s.Table.nH.length+1) ny s.oM (len s.oM) s.Table.nH) (fun i r c=>bif !(!(bif (rI r 7)==0 then decide (ny≤rI r 8) else false)) then k_ false else c) (bif s.Table.nH.all (fun r=> !(bif (rI r 0)==1 then decide (ny≤rI r 6) else false)) then k_ true else k_ false) ?_ ?_ (s.oM.length+s.Table.nH.length+1) (by omega)).trans (Rr (fun r=> !(bif (rI r 7)==0 then decide (ny≤rI r 8) else false)) (k_ false) _ s.oM 0)
  ·intro n i h
   rw[RY]
   simp only[u4,pw h,nY h,oO h hl,Int.toNat_natCast,ng,nn,cond_true,Bool.not_not]
  ·intro n
   rw[RY]
   simp only[u4,nX,cond_false]
   exact nu2
 refine key.trans ?_
 obtain⟨g1,g2,g3⟩:=nkc hg
 rw[ngA (l:=s.oM) (q:=fun r=> !(decide (ny≤rI r 8))) (fun r hr=>by
  by_cases h7:rI r 7=0
  ·have e:((rI r 7)==0)=true:=by simpa using h7
   rw[e,cond_true]
  ·have e:((rI r 7)==0)=false:=by simpa using h7
   rw[e,cond_false,nt2 (g1 r hr) h7,decide_eq_false (by omega)])]
 rw[ngA (l:=s.Table.nH) (q:=fun r=> !(decide (ny≤rI r 6))) (fun r hr=>by
  by_cases h7:rI r 0=1
  ·have e:((rI r 0)==1)=true:=by simpa using h7
   rw[e,cond_true]
  ·have e:((rI r 0)==1)=false:=by simpa using h7
   rw[e,cond_false,ns_ g2 hr h7,decide_eq_false (by omega)])]
 cases s.oM.all (fun r=> !(decide (ny≤rI r 8)))
 ·rfl
 ·cases s.Table.nH.all (fun r=> !(decide (ny≤rI r 6)))<;>rfl
def vj (k_:Bool→α) (l1:Int→α) (ny:Int) (tR sB:Rows) (oP:Int→α) (k:Int):α:=
 bif decide (k<len tR) then
  bif Ei true (idx k tR) then
   bif decide (ny≤rI (nth tR (Int.toNat k)) 8) then k_ false
   else oP (nS (k+1))
  else ke
 else l1 0
def vk (k_:Bool→α) (ny:Int) (sB:Rows) (ih1:Int→α) (rj:Int):α:=
 bif decide (rj<len sB) then
  bif Ei true (idx rj sB) then
   bif decide (ny≤rI (nth sB (Int.toNat rj)) 6) then k_ false
   else ih1 (nS (rj+1))
  else ke
 else k_ true
def sJ (k_:Bool→α) (N:Nat) (ny:Int) (sB:Rows) (m_:Nat):Int→α:=
 Nat.rec (motive:=fun _=>Int→α) (fun _=>ke) (fun _ ih1=>vk ke k_ ny sB ih1) m_
theorem Sd (k_:Bool→α) (N:Nat) (ny:Int) (sB:Rows) (m_:Nat):sJ ke k_ N ny sB (m_+1)=vk ke k_ ny sB (sJ ke k_ N ny sB m_):=rfl
def sH (k_:Bool→α) (N:Nat) (ny:Int) (tR sB:Rows) (m_:Nat):Int→α:=
 Nat.rec (motive:=fun _=>Int→α) (fun _=>ke) (fun _ oP=>vj ke k_ (sJ ke k_ N ny sB N) ny tR sB oP) m_
theorem Sc (k_:Bool→α) (N:Nat) (ny:Int) (tR sB:Rows) (m_:Nat) (k:Int):sH ke k_ N ny tR sB (m_+1) k=vj ke k_ (sJ ke k_ N ny sB N) ny tR sB (sH ke k_ N ny tR sB m_) k:=rfl
def yq {α:Type} (ke:α) (k_:Bool→α) (l0:Rows→Rows→Int→α) (s:nm) (ny:Int):α:=
 bif bif !(TB s.oM) then true else bif !(yV s.Table) then true else !(yx s.oa ny) then k_ false
 else l0 s.oM s.Table.nH 0
def yp (k_:Bool→α) (N:Nat) (s:nm) (ny:Int):α:=yq ke k_ (fun tR sB=>sH ke k_ N ny tR sB N) s ny
theorem nj0 (k_:Bool→α) (s:nm) (ny:Int) (yZ:kc nm.ct s.enc):∃N,yp ke k_ N s ny=k_ (rT s ny):=by
 obtain⟨hl,_⟩:=oJ (nm.nrD yZ)
 obtain⟨j_,_⟩:=oJ (ni.V_ (nm.Wa yZ))
 refine⟨s.oM.length+s.Table.nH.length+1, ?_⟩
 unfold yp yq rT
 refine pH (fun _=>rfl) (fun hg=> ?_)
 have nu2:sJ ke k_ (s.oM.length+s.Table.nH.length+1) ny s.Table.nH (s.oM.length+s.Table.nH.length+1) 0=bif s.Table.nH.all (fun r=> !(decide (ny≤rI r 6))) then k_ true else k_ false:=by
  refine (xi s.Table.nH (sJ ke k_ (s.oM.length+s.Table.nH.length+1) ny s.Table.nH) (fun i r c=>bif !(!(decide (ny≤rI r 6))) then k_ false else c) (k_ true) ?_ ?_ (s.oM.length+s.Table.nH.length+1) (by omega)).trans (Rr (fun r=> !(decide (ny≤rI r 6))) (k_ false) (k_ true) s.Table.nH 0)
  ·intro n i h
   rw[Sd]
   simp only[vk,pw h,nY h,oO h j_,Int.toNat_natCast,ng,nn,cond_true,Bool.not_not]
  ·intro n
   rw[Sd]
   simp only[vk,nX,cond_false]
 have key:sH ke k_ (s.oM.length+s.Table.nH.length+1) ny s.oM s.Table.nH (s.oM.length+s.Table.nH.length+1) 0=bif s.oM.all (fun r=> !(decide (ny≤rI r 8))) then (bif s.Table.nH.all (fun r=> !(decide (ny≤rI r 6))) then k_ true else k_ false) else k_ false:=by
  refine (xi s.oM (sH ke k_ (s.oM.length+s.Table.nH.length+1) ny s.oM s.Table.nH) (fun i r c=>bif !(!(decide (ny≤rI r 8))) then k_ false else c) (bif s.Table.nH.all (fun r=> !(decide (ny≤rI r 6))) then k_ true else k_ false) ?_ ?_ (s.oM.length+s.Table.nH.length+1) (by omega)).trans (Rr (fun r=> !(decide (ny≤rI r 8))) (k_ false) _ s.oM 0)
  ·intro n i h
   rw[Sc]
   simp only[vj,pw h,nY h,oO h hl,Int.toNat_natCast,ng,nn,cond_true,Bool.not_not]
  ·intro n
   rw[Sc]
   simp only[vj,nX,cond_false]
   exact nu2
 refine key.trans ?_
 cases s.oM.all (fun r=> !(decide (ny≤rI r 8)))
 ·rfl
 ·cases s.Table.nH.all (fun r=> !(decide (ny≤rI r 6)))<;>rfl
def yA (k_:Bool→α) (l1:Int→Rows→Int→α) (n x:Int) (qd qc pe pI pJ:Rows) (pM:Bytes) (pK:Rows) (qE qF qG qH qI:Int) (oP:Int→α) (oy:Int):α:=
 let z0:Bool:= !(X6 (nr.nd (nth qd (Int.toNat oy)) 0))
 let z1:Bool:= !(qP (nj.nd (nth qc (Int.toNat oy)) 0))
 let z2:Bool:=Ei (Ei true (idx oy qd)) (idx oy qc)
 bif decide (oy<x) then
  bif L1 z0 (Ei true (idx oy qd)) (L1 z1 z2 (Ei z2 (idx oy pe))) then
   bif bif z0 then true else bif z1 then true else !(tA (nx.nd (nth pe (Int.toNat oy)) 0)) then k_ false
   else oP (nS (oy+1))
  else ke
 else l1 5 ([[.int qE],[.int qF],[.int qG],[.int qH],[.int qI]]) 0
def OV (k_:Bool→α) (n oN:Int) (pI pJ:Rows) (pM:Bytes) (pK Sh:Rows) (ih1:Int→α) (x_3:Int):α:=
 bif decide (x_3<oN) then
  bif Ei (Ei true (idx x_3 Sh)) (inl (Int.toNat x_3) Sh) then
   bif !(nh (rI (nth Sh (Int.toNat x_3)) 0) 0 1000000000000) then k_ false
   else ih1 (nS (x_3+1))
  else ke
 else k_ (rT (⟨pI,(⟨pJ⟩:ni),(⟨pM,pK⟩:nI)⟩:nm) n)
def uY (k_:Bool→α) (N:Nat) (n oN:Int) (pI pJ:Rows) (pM:Bytes) (pK Sh:Rows) (m_:Nat):Int→α:=
 Nat.rec (motive:=fun _=>Int→α) (fun _=>ke) (fun _ ih1=>OV ke k_ n oN pI pJ pM pK Sh ih1) m_
theorem Yd (k_:Bool→α) (N:Nat) (n oN:Int) (pI pJ:Rows) (pM:Bytes) (pK Sh:Rows) (m_:Nat):uY ke k_ N n oN pI pJ pM pK Sh (m_+1)=OV ke k_ n oN pI pJ pM pK Sh (uY ke k_ N n oN pI pJ pM pK Sh m_):=rfl
def sT (k_:Bool→α) (N:Nat) (n x:Int) (qd qc pe pI pJ:Rows) (pM:Bytes) (pK:Rows) (qE qF qG qH qI:Int) (m_:Nat):Int→α:=
 Nat.rec (motive:=fun _=>Int→α) (fun _=>ke) (fun _ oP=>yA ke k_ (fun oN Sh=>uY ke k_ N n oN pI pJ pM pK Sh N) n x qd qc pe pI pJ pM pK qE qF qG qH qI oP) m_
theorem Yc (k_:Bool→α) (N:Nat) (n x:Int) (qd qc pe pI pJ:Rows) (pM:Bytes) (pK:Rows) (qE qF qG qH qI:Int) (m_:Nat) (oy:Int):sT ke k_ N n x qd qc pe pI pJ pM pK qE qF qG qH qI (m_+1) oy=yA ke k_ (fun oN Sh=>uY ke k_ N n oN pI pJ pM pK Sh N) n x qd qc pe pI pJ pM pK qE qF qG qH qI (sT ke k_ N n x qd qc pe pI pJ pM pK qE qF qG qH qI m_) oy:=rfl
def Rv (k_:Bool→α) (l0:Int→Int→Rows→Rows→Rows→Rows→Rows→Bytes→Rows→Int→Int→Int→Int→Int→Int→α) (h:nt):α:=
 let z0:Bool:= !(nh (len h.Rx) 1 2)
 let z1:Bool:=(len h.nR) != (len h.Rx)
 let z2:Bool:=(len h.nN) != (len h.Rx)
 bif L1 (!(qb h.n_)) true (L1 (!(pD h.Maps)) true (L1 (!(neW h.Tx)) (Ei true (SX h.Tx)) (L1 (!(vI h.Filter)) (Ei true (SX h.Tx)) (L1 z0 (Ei true (SX h.Tx)) (L1 z1 (Ei true (SX h.Tx)) (L1 z2 (Ei true (SX h.Tx)) (Ei true (SX h.Tx)))))))) then
  bif bif !(qb h.n_) then true else bif !(pD h.Maps) then true else bif !(neW h.Tx) then true else bif !(vI h.Filter) then true else bif z0 then true else bif z1 then true else bif z2 then true else (len h.nT) != (len h.Rx) then k_ false
  else l0 (len h.Rx) (len h.Rx) h.Rx h.nR h.nN h.nk.oM h.nk.Table.nH h.nk.oa.Key h.nk.oa.Table h.Counters.Frames h.Counters.Bad h.Counters.pX h.Counters.qz h.Counters.tz 0
 else ke
def Ru (k_:Bool→α) (N:Nat) (h:nt):α:=Rv ke k_ (fun n x qd qc pe pI pJ pM pK qE qF qG qH qI=>sT ke k_ N n x qd qc pe pI pJ pM pK qE qF qG qH qI N) h
def Z1 (h:nt):Bool:=SX h.Tx
def wF (h:nt):Rows:=[[.int h.Counters.Frames],[.int h.Counters.Bad],[.int h.Counters.pX],[.int h.Counters.qz],[.int h.Counters.tz]]
def npj (h:nt):Bool:=(bif !(qb h.n_) then true else bif !(pD h.Maps) then true else bif !(neW h.Tx) then true else bif !(vI h.Filter) then true else bif !(nh (len h.Rx) 1 2) then true else bif (len h.nR) != (len h.Rx) then true else bif (len h.nN) != (len h.Rx) then true else (len h.nT) != (len h.Rx))
def OC (h:nt):Bool:=bif npj h then false else bif rT h.nk (len h.Rx) then bif yt (fun i=>bif !(X6 (nr.nd (nth h.Rx i) 0)) then true else bif !(qP (nj.nd (nth h.nR i) 0)) then true else !(tA (nx.nd (nth h.nN i) 0))) h.Rx.length 0 then false else (wF h).all (fun r=>nh (rI r 0) 0 1000000000000) else false
theorem nine:∀a b c d e f g i j:Bool,(bif a then true else bif b then true else bif c then true else bif d then true else bif e then true else bif f then true else bif g then true else bif i then true else j)=(bif (bif a then true else bif b then true else bif c then true else bif d then true else bif e then true else bif f then true else bif g then true else i) then true else j):=by decide
theorem nrK (k_:Bool→α) (h:nt) (aJ:Z1 h=true):∃N,Ru ke k_ N h=k_ (OC h):=by
 have hq:SX h.Tx=true:=aJ
 refine⟨h.Rx.length+6, ?_⟩
 unfold Ru Rv OC
 simp only[hq,ng,nn,yK,cond_true]
 refine pH (fun _=>rfl) (fun hg=> ?_)
 have hn:h.Rx.length≤2∧len h.nR=len h.Rx∧len h.nN=len h.Rx:=by
  unfold npj at hg
  cases h5:nh (len h.Rx) 1 2
  ·rw[h5] at hg
   revert hg
   cases qb h.n_<;>cases pD h.Maps<;>cases neW h.Tx<;>cases vI h.Filter<;>simp
  ·have b:=(pA.1 h5).2
   by_cases e1:len h.nR=len h.Rx
   ·by_cases e2:len h.nN=len h.Rx
    ·exact⟨by simp only[len] at b;omega,e1,e2⟩
    ·have e2:((len h.nN) != (len h.Rx))=true:=by simpa using e2
     rw[e2] at hg
     revert hg
     cases qb h.n_<;>cases pD h.Maps<;>cases neW h.Tx<;>cases vI h.Filter<;>cases nh (len h.Rx) 1 2<;>cases ((len h.nR) != (len h.Rx))<;>simp
   ·have e1:((len h.nR) != (len h.Rx))=true:=by simpa using e1
    rw[e1] at hg
    revert hg
    cases qb h.n_<;>cases pD h.Maps<;>cases neW h.Tx<;>cases vI h.Filter<;>cases nh (len h.Rx) 1 2<;>simp
 obtain⟨hn,hp,hv⟩:=hn
 have hc5:(wF h).length=5:=rfl
 have nu2:uY ke k_ (h.Rx.length+6) (len h.Rx) 5 h.nk.oM h.nk.Table.nH h.nk.oa.Key h.nk.oa.Table (wF h) (h.Rx.length+6) 0=bif (wF h).all (fun r=>nh (rI r 0) 0 1000000000000) then (k_ (rT h.nk (len h.Rx))) else k_ false:=by
  refine (xi (wF h) (uY ke k_ (h.Rx.length+6) (len h.Rx) 5 h.nk.oM h.nk.Table.nH h.nk.oa.Key h.nk.oa.Table (wF h)) (fun i r c=>bif !(nh (rI r 0) 0 1000000000000) then k_ false else c) ((k_ (rT h.nk (len h.Rx)))) ?_ ?_ (h.Rx.length+6) (by omega)).trans (Rr (fun r=>nh (rI r 0) 0 1000000000000) (k_ false) ((k_ (rT h.nk (len h.Rx)))) (wF h) 0)
  ·intro n i hi
   rw[Yd]
   have w1:nS ((i:Int)+1)=(i:Int)+1:=nP (by omega) (by omega)
   have hd:decide ((i:Int)<5)=true:=decide_eq_true (by omega)
   simp only[OV,hd,nY hi,qC hi,w1,Int.toNat_natCast,ng,nn,cond_true]
  ·intro n
   rw[Yd]
   rfl
 have key:sT ke k_ (h.Rx.length+6) (len h.Rx) (len h.Rx) h.Rx h.nR h.nN h.nk.oM h.nk.Table.nH h.nk.oa.Key h.nk.oa.Table h.Counters.Frames h.Counters.Bad h.Counters.pX h.Counters.qz h.Counters.tz (h.Rx.length+6) 0=bif yt (fun i=>bif !(X6 (nr.nd (nth h.Rx i) 0)) then true else bif !(qP (nj.nd (nth h.nR i) 0)) then true else !(tA (nx.nd (nth h.nN i) 0))) h.Rx.length 0 then k_ false else (bif (wF h).all (fun r=>nh (rI r 0) 0 1000000000000) then (k_ (rT h.nk (len h.Rx))) else k_ false):=by
  refine (njM (σ:=Unit) h.Rx.length (fun n i _=>sT ke k_ (h.Rx.length+6) (len h.Rx) (len h.Rx) h.Rx h.nR h.nN h.nk.oM h.nk.Table.nH h.nk.oa.Key h.nk.oa.Table h.Counters.Frames h.Counters.Bad h.Counters.pX h.Counters.qz h.Counters.tz n i) (fun i c s=>bif bif !(X6 (nr.nd (nth h.Rx i) 0)) then true else bif !(qP (nj.nd (nth h.nR i) 0)) then true else !(tA (nx.nd (nth h.nN i) 0)) then k_ false else c s) (fun _=>bif (wF h).all (fun r=>nh (rI r 0) 0 1000000000000) then (k_ (rT h.nk (len h.Rx))) else k_ false) ?_ ?_ (h.Rx.length+6) () (by omega)).trans (no0 (fun i=>bif !(X6 (nr.nd (nth h.Rx i) 0)) then true else bif !(qP (nj.nd (nth h.nR i) 0)) then true else !(tA (nx.nd (nth h.nN i) 0))) (k_ false) _ h.Rx.length 0)
  ·intro n i s hi
   show sT ke k_ (h.Rx.length+6) (len h.Rx) (len h.Rx) h.Rx h.nR h.nN h.nk.oM h.nk.Table.nH h.nk.oa.Key h.nk.oa.Table h.Counters.Frames h.Counters.Bad h.Counters.pX h.Counters.qz h.Counters.tz (n+1) (i:Int)=_
   rw[Yc]
   have w1:nS ((i:Int)+1)=(i:Int)+1:=nP (by omega) (by omega)
   have p1:idx (i:Int) h.Rx=true:=nY hi
   have p2:idx (i:Int) h.nR=true:=nY (by simp only[len] at hp;omega)
   have p3:idx (i:Int) h.nN=true:=nY (by simp only[len] at hv;omega)
   have p0:decide ((i:Int)<len h.Rx)=true:=pw hi
   simp only[yA,p0,p1,p2,p3,w1,Int.toNat_natCast,ng,nn,yK,cond_true]
  ·intro n s
   show sT ke k_ (h.Rx.length+6) (len h.Rx) (len h.Rx) h.Rx h.nR h.nN h.nk.oM h.nk.Table.nH h.nk.oa.Key h.nk.oa.Table h.Counters.Frames h.Counters.Bad h.Counters.pX h.Counters.qz h.Counters.tz (n+1) (h.Rx.length:Int)=_
   rw[Yc]
   have p0:decide ((h.Rx.length:Int)<len h.Rx)=false:=nX h.Rx
   simp only[yA,p0,cond_false]
   exact nu2
 refine key.trans ?_
 cases rT h.nk (len h.Rx)
 ·cases yt (fun i=>bif !(X6 (nr.nd (nth h.Rx i) 0)) then true else bif !(qP (nj.nd (nth h.nR i) 0)) then true else !(tA (nx.nd (nth h.nN i) 0))) h.Rx.length 0
  ·cases (wF h).all (fun r=>nh (rI r 0) 0 1000000000000)<;>rfl
  ·rfl
 ·cases yt (fun i=>bif !(X6 (nr.nd (nth h.Rx i) 0)) then true else bif !(qP (nj.nd (nth h.nR i) 0)) then true else !(tA (nx.nd (nth h.nN i) 0))) h.Rx.length 0
  ·cases (wF h).all (fun r=>nh (rI r 0) 0 1000000000000)<;>rfl
  ·rfl
def yN (k_:Bool→α) (l1:Rows→Int→α) (n:Int) (qd qc pe:Rows) (qE qF qG qH qI:Int) (oP:Int→α) (k:Int):α:=
 let z0:Bool:= !(X6 (nr.nd (nth qd (Int.toNat k)) 0))
 let z1:Bool:= !(qP (nj.nd (nth qc (Int.toNat k)) 0))
 let z2:Bool:=Ei (Ei true (idx k qd)) (idx k qc)
 bif decide (k<n) then
  bif L1 z0 (Ei true (idx k qd)) (L1 z1 z2 (Ei z2 (idx k pe))) then
   bif bif z0 then true else bif z1 then true else !(tA (nx.nd (nth pe (Int.toNat k)) 0)) then k_ false
   else oP (nS (k+1))
  else ke
 else l1 ([[.int qE],[.int qF],[.int qG],[.int qH],[.int qI]]) 0
def Py (k_:Bool→α) (na:Rows) (ih1:Int→α) (rj:Int):α:=
 bif decide (rj<len na) then
  bif Ei (Ei true (idx rj na)) (inl (Int.toNat rj) na) then
   bif !(nh (rI (nth na (Int.toNat rj)) 0) 0 1000000000000) then k_ false
   else ih1 (nS (rj+1))
  else ke
 else k_ true
def vd (k_:Bool→α) (N:Nat) (na:Rows) (m_:Nat):Int→α:=
 Nat.rec (motive:=fun _=>Int→α) (fun _=>ke) (fun _ ih1=>Py ke k_ na ih1) m_
theorem ZJ (k_:Bool→α) (N:Nat) (na:Rows) (m_:Nat):vd ke k_ N na (m_+1)=Py ke k_ na (vd ke k_ N na m_):=rfl
def s_ (k_:Bool→α) (N:Nat) (n:Int) (qd qc pe:Rows) (qE qF qG qH qI:Int) (m_:Nat):Int→α:=
 Nat.rec (motive:=fun _=>Int→α) (fun _=>ke) (fun _ oP=>yN ke k_ (fun na=>vd ke k_ N na N) n qd qc pe qE qF qG qH qI oP) m_
theorem ZI (k_:Bool→α) (N:Nat) (n:Int) (qd qc pe:Rows) (qE qF qG qH qI:Int) (m_:Nat) (k:Int):s_ ke k_ N n qd qc pe qE qF qG qH qI (m_+1) k=yN ke k_ (fun na=>vd ke k_ N na N) n qd qc pe qE qF qG qH qI (s_ ke k_ N n qd qc pe qE qF qG qH qI m_) k:=rfl
def RM (k_:Bool→α) (l0:Int→Rows→Rows→Rows→Int→Int→Int→Int→Int→Int→α) (h:nt):α:=
 let z0:Bool:= !(nh (len h.Rx) 1 2)
 let z1:Bool:=(len h.nR) != (len h.Rx)
 let z2:Bool:=(len h.nN) != (len h.Rx)
 let z3:Bool:=(len h.nT) != (len h.Rx)
 bif L1 (!(qb h.n_)) true (L1 (!(pD h.Maps)) true (L1 (!(neW h.Tx)) (Ei true (SX h.Tx)) (L1 (!(vI h.Filter)) (Ei true (SX h.Tx)) (L1 z0 (Ei true (SX h.Tx)) (L1 z1 (Ei true (SX h.Tx)) (L1 z2 (Ei true (SX h.Tx)) (L1 z3 (Ei true (SX h.Tx)) (Ei true (SX h.Tx))))))))) then
  bif bif !(qb h.n_) then true else bif !(pD h.Maps) then true else bif !(neW h.Tx) then true else bif !(vI h.Filter) then true else bif z0 then true else bif z1 then true else bif z2 then true else bif z3 then true else !(rT h.nk (len h.Rx)) then k_ false
  else l0 (len h.Rx) h.Rx h.nR h.nN h.Counters.Frames h.Counters.Bad h.Counters.pX h.Counters.qz h.Counters.tz 0
 else ke
def RL (k_:Bool→α) (N:Nat) (h:nt):α:=RM ke k_ (fun n qd qc pe qE qF qG qH qI=>s_ ke k_ N n qd qc pe qE qF qG qH qI N) h
theorem nsC (k_:Bool→α) (h:nt) (aJ:Z1 h=true):∃N,RL ke k_ N h=k_ (OC h):=by
 have hq:SX h.Tx=true:=aJ
 refine⟨h.Rx.length+6, ?_⟩
 unfold RL RM OC
 simp only[hq,ng,nn,yK,cond_true]
 rw[nine]
 show (bif (bif npj h then true else !(rT h.nk (len h.Rx))) then k_ false else _)=_
 rcases Bool.eq_false_or_eq_true (npj h) with hg | hg
 ·rw[hg];rfl
 rcases Bool.eq_false_or_eq_true (rT h.nk (len h.Rx)) with hs | hs
 case inr=>
  rw[hg,hs];rfl
 simp only[hg,hs,Bool.not_true,cond_false,cond_true]
 have hn:h.Rx.length≤2∧len h.nR=len h.Rx∧len h.nN=len h.Rx:=by
  unfold npj at hg
  cases h5:nh (len h.Rx) 1 2
  ·rw[h5] at hg
   revert hg
   cases qb h.n_<;>cases pD h.Maps<;>cases neW h.Tx<;>cases vI h.Filter<;>simp
  ·have b:=(pA.1 h5).2
   by_cases e1:len h.nR=len h.Rx
   ·by_cases e2:len h.nN=len h.Rx
    ·exact⟨by simp only[len] at b;omega,e1,e2⟩
    ·have e2:((len h.nN) != (len h.Rx))=true:=by simpa using e2
     rw[e2] at hg
     revert hg
     cases qb h.n_<;>cases pD h.Maps<;>cases neW h.Tx<;>cases vI h.Filter<;>cases nh (len h.Rx) 1 2<;>cases ((len h.nR) != (len h.Rx))<;>simp
   ·have e1:((len h.nR) != (len h.Rx))=true:=by simpa using e1
    rw[e1] at hg
    revert hg
    cases qb h.n_<;>cases pD h.Maps<;>cases neW h.Tx<;>cases vI h.Filter<;>cases nh (len h.Rx) 1 2<;>simp
 obtain⟨hn,hp,hv⟩:=hn
 have hc5:(wF h).length=5:=rfl
 have nu2:vd ke k_ (h.Rx.length+6) (wF h) (h.Rx.length+6) 0=bif (wF h).all (fun r=>nh (rI r 0) 0 1000000000000) then (k_ true) else k_ false:=by
  refine (xi (wF h) (vd ke k_ (h.Rx.length+6) (wF h)) (fun i r c=>bif !(nh (rI r 0) 0 1000000000000) then k_ false else c) ((k_ true)) ?_ ?_ (h.Rx.length+6) (by omega)).trans (Rr (fun r=>nh (rI r 0) 0 1000000000000) (k_ false) ((k_ true)) (wF h) 0)
  ·intro n i hi
   rw[ZJ]
   have w1:nS ((i:Int)+1)=(i:Int)+1:=nP (by omega) (by omega)
   simp only[Py,pw hi,nY hi,qC hi,w1,Int.toNat_natCast,ng,nn,cond_true]
  ·intro n
   rw[ZJ]
   rfl
 have key:s_ ke k_ (h.Rx.length+6) (len h.Rx) h.Rx h.nR h.nN h.Counters.Frames h.Counters.Bad h.Counters.pX h.Counters.qz h.Counters.tz (h.Rx.length+6) 0=bif yt (fun i=>bif !(X6 (nr.nd (nth h.Rx i) 0)) then true else bif !(qP (nj.nd (nth h.nR i) 0)) then true else !(tA (nx.nd (nth h.nN i) 0))) h.Rx.length 0 then k_ false else (bif (wF h).all (fun r=>nh (rI r 0) 0 1000000000000) then (k_ true) else k_ false):=by
  refine (njM (σ:=Unit) h.Rx.length (fun n i _=>s_ ke k_ (h.Rx.length+6) (len h.Rx) h.Rx h.nR h.nN h.Counters.Frames h.Counters.Bad h.Counters.pX h.Counters.qz h.Counters.tz n i) (fun i c s=>bif bif !(X6 (nr.nd (nth h.Rx i) 0)) then true else bif !(qP (nj.nd (nth h.nR i) 0)) then true else !(tA (nx.nd (nth h.nN i) 0)) then k_ false else c s) (fun _=>bif (wF h).all (fun r=>nh (rI r 0) 0 1000000000000) then (k_ true) else k_ false) ?_ ?_ (h.Rx.length+6) () (by omega)).trans (no0 (fun i=>bif !(X6 (nr.nd (nth h.Rx i) 0)) then true else bif !(qP (nj.nd (nth h.nR i) 0)) then true else !(tA (nx.nd (nth h.nN i) 0))) (k_ false) _ h.Rx.length 0)
  ·intro n i s hi
   show s_ ke k_ (h.Rx.length+6) (len h.Rx) h.Rx h.nR h.nN h.Counters.Frames h.Counters.Bad h.Counters.pX h.Counters.qz h.Counters.tz (n+1) (i:Int)=_
   rw[ZI]
   have w1:nS ((i:Int)+1)=(i:Int)+1:=nP (by omega) (by omega)
   have p1:idx (i:Int) h.Rx=true:=nY hi
   have p2:idx (i:Int) h.nR=true:=nY (by simp only[len] at hp;omega)
   have p3:idx (i:Int) h.nN=true:=nY (by simp only[len] at hv;omega)
   have p0:decide ((i:Int)<len h.Rx)=true:=pw hi
   simp only[yN,p0,p1,p2,p3,w1,Int.toNat_natCast,ng,nn,yK,cond_true]
  ·intro n s
   show s_ ke k_ (h.Rx.length+6) (len h.Rx) h.Rx h.nR h.nN h.Counters.Frames h.Counters.Bad h.Counters.pX h.Counters.qz h.Counters.tz (n+1) (h.Rx.length:Int)=_
   rw[ZI]
   have p0:decide ((h.Rx.length:Int)<len h.Rx)=false:=nX h.Rx
   simp only[yN,p0,cond_false]
   exact nu2
 refine key.trans ?_
 cases yt (fun i=>bif !(X6 (nr.nd (nth h.Rx i) 0)) then true else bif !(qP (nj.nd (nth h.nR i) 0)) then true else !(tA (nx.nd (nth h.nN i) 0))) h.Rx.length 0
 ·cases (wF h).all (fun r=>nh (rI r 0) 0 1000000000000)<;>rfl
 ·rfl
theorem nsY:∀(a:Rows) (l:Int),(∀r∈a,kc py.ct r)→0≤l→l≤1048576→0≤ntO (fun r l=>rV (py.nd r 0) l) a l→(npc a:Int)≤l
 | [],l,_,h,_,_=>by simpa [npc] using h
 | r::rs,l,hw,h,h',h0=>by
  simp only[ntO] at h0
  have hr:G9 (.sl [.int .i64]) (.sl (rR r 2)):=by
   have:=hw r (by simp)
   rw[←py.eta this] at this
   exact py.nrB this
  obtain⟨e,hl⟩:=neH h h' (oJ hr).1
  have hs:rV (py.nd r 0) l=bif decide (l - len (rR r 2)<0) then -1 else l - len (rR r 2):=by
   unfold rV RG oI
   show (bif decide ((bif decide (nS (l - len (rR r 2))<0) then -1 else nS (l - len (rR r 2)))<0) then id (-1) else id (bif decide (nS (l - len (rR r 2))<0) then -1 else nS (l - len (rR r 2))))=_
   rw[e]
   by_cases hn:l - len (rR r 2)<0
   ·simp [hn]
   ·simp [hn]
  by_cases hn:l - len (rR r 2)<0
  ·simp [hs,hn] at h0
  ·have hs:rV (py.nd r 0) l=l - len (rR r 2):=by simp [hs,hn]
   have hn':¬rV (py.nd r 0) l<0:=by omega
   simp only[hn',decide_false,cond_false] at h0
   rw[hs] at h0
   have ih:=nsY rs (l - len (rR r 2)) (fun x hx=>hw x (by simp [hx])) (by omega) (by omega) h0
   simp only[npc]
   simp only[len] at ih hn
   omega
theorem ntQ {a:Rows} {left:Int} (wT:G9 (.sl [.int .i64,.int .i64,.sl [.int .i64]]) (.sl a)) (h1:0≤left) (h2:left≤1048576) (h0:0≤tO a left):npc a≤1048576:=by
 obtain⟨hl,hw⟩:=oJ wT
 obtain⟨e,h3⟩:=neH h1 h2 hl
 simp only[tO,Tv,e] at h0
 by_cases hn:left - len a<0
 ·simp [hn] at h0
 ·simp only[hn,decide_false,cond_false] at h0
  have:=nsY a (left - len a) hw (by omega) (by omega) h0
  omega
theorem nw1 {a:nv} {left:Int} (wT:kc nv.ct a.enc) (h1:0≤left) (h2:left≤1048576) (h0:0≤oL a left):SX a=true:=by
 simp only[oL,zn,id] at h0
 by_cases c0:qN a.n9 left<0
 ·simp only[c0,decide_true,cond_true] at h0;omega
 simp only[c0,decide_false,cond_false] at h0
 have k0:=Pg (nv.ntY wT) h1 h2 (Int.not_lt.1 c0)
 by_cases c1:tO a.nD (qN a.n9 left)<0
 ·simp only[c1,decide_true,cond_true] at h0;omega
 have k1:=nbF (nv.Rp wT) (Int.not_lt.1 c0) k0.1 (Int.not_lt.1 c1)
 have k2:=ntQ (nv.Rp wT) (Int.not_lt.1 c0) k0.1 (Int.not_lt.1 c1)
 have f1:a.n9.oe.length≤1048576:=by
  have hw:=(oJ (nj.nj_ (nv.ntY wT))).1
  obtain⟨e,hl⟩:=neH h1 h2 hw
  simp only[qN,Nd,id,oI,e] at c0
  by_cases hn:left - len a.n9.oe<0
  ·simp [hn] at c0
  ·simp only[len] at hn;omega
 have f2:sm a.nD=true:=by
  have:=k1.2
  simp only[tl,Bool.and_eq_true] at this
  exact this.1
 simp only[SX,f2,Bool.true_and,Bool.and_eq_true,decide_eq_true_eq]
 omega
theorem nvG {a:nt} {left:Int} (wT:kc nt.ct a.enc) (h1:0≤left) (h2:left≤1048576) (h0:0≤tZ a left):Z1 a=true:=by
 simp only[tZ,Nb,id] at h0
 by_cases c0:oF a.n_ left<0
 ·simp only[c0,decide_true,cond_true] at h0;omega
 simp only[c0,decide_false,cond_false] at h0
 have k0:=Qz (nt.nl9 wT) h1 h2 (Int.not_lt.1 c0)
 by_cases c1:oI a.Maps (oF a.n_ left)<0
 ·simp only[c1,decide_true,cond_true] at h0;omega
 simp only[c1,decide_false,cond_false] at h0
 have k1:=tK (Int.not_lt.1 c0) k0.1 (oJ (nt.ntW wT)).1 (Int.not_lt.1 c1)
 by_cases c2:oL a.Tx (oI a.Maps (oF a.n_ left))<0
 ·simp only[c2,decide_true,cond_true] at h0;omega
 exact nw1 (nt.nwP wT) (Int.not_lt.1 c1) k1.1 (Int.not_lt.1 c2)
def nio (k_:Int→α) (s:Bytes) (at_:Int):α:=
 bif bif decide (at_<0) then true else decide (nS ((len s) - 4)<at_) then k_ (-1)
 else bif Ei (Ei (Ei (Ei true (idx at_ s)) (idx (nS (at_+1)) s)) (idx (nS (at_+2)) s)) (idx (nS (at_+3)) s) then
   k_ (bits .or .i64 (bits .or .i64 (bits .or .i64 (ncv .i64 (nS (zQ s at_)) 24) (ncv .i64 (nS (zQ s (nS (at_+1)))) 16)) (ncv .i64 (nS (zQ s (nS (at_+2)))) 8)) (nS (zQ s (nS (at_+3)))))
  else ke
def tT (s:Bytes) (at_:Int):Int:=bif bif decide (at_<0) then true else decide (len s<at_+4) then -1 else (zQ s at_)*16777216+(zQ s (at_+1))*65536+(zQ s (at_+2))*256+zQ s (at_+3)
theorem ntt (k_:Int→α) (s:Bytes) (at_:Int) (yZ:G9 .str (.str s)) (OL:G9 .i (.int at_)):nio ke k_ s at_=k_ (tT s at_):=by
 have hl:=yR yZ
 have ha:=vn OL
 have hl0:0≤len s:=by simp [len]
 have GL:len s≤9223372036854775807:=by simp only[len];omega
 have dV:∀j:Int,at_≤j→j<at_+4→0≤at_→at_+4≤len s→idx j s=true:=by
  intro j h1 h2 h3 h4
  simp only[len] at h4
  simp only[idx,Bool.and_eq_true,decide_eq_true_eq]
  omega
 unfold nio tT
 by_cases hc:at_<0
 ·simp only[hc,decide_true,cond_true]
 ·by_cases hd:len s<at_+4
  ·have JM:nS (len s - 4)<at_:=by rw[nP (by omega) (by omega)];omega
   simp only[hc,hd,JM,decide_true,decide_false,cond_true,cond_false]
  ·have JM:¬nS (len s - 4)<at_:=by rw[nP (by omega) (by omega)];omega
   have w1:nS (at_+1)=at_+1:=nP (by omega) (by omega)
   have w2:nS (at_+2)=at_+2:=nP (by omega) (by omega)
   have w3:nS (at_+3)=at_+3:=nP (by omega) (by omega)
   have b0:=tr s at_
   have c0:=vr s at_
   have b1:=tr s (at_+1)
   have c1:=vr s (at_+1)
   have b2:=tr s (at_+2)
   have c2:=vr s (at_+2)
   have b3:=tr s (at_+3)
   have c3:=vr s (at_+3)
   simp only[hc,hd,JM,decide_false,cond_false,w1,w2,w3,dV at_ (by omega) (by omega) (by omega) (by omega),dV (at_+1) (by omega) (by omega) (by omega) (by omega),dV (at_+2) (by omega) (by omega) (by omega) (by omega),dV (at_+3) (by omega) (by omega) (by omega) (by omega),ng,cond_true]
   rw[nP (n:=zQ s at_) (by omega) (by omega),nP (n:=zQ s (at_+1)) (by omega) (by omega),nP (n:=zQ s (at_+2)) (by omega) (by omega),nP (n:=zQ s (at_+3)) (by omega) (by omega)]
   rw[nxK,nxb,nwH]
   rw[nP (n:=zQ s at_*16777216) (by omega) (by omega),nP (n:=zQ s (at_+1)*65536) (by omega) (by omega),nP (n:=zQ s (at_+2)*256) (by omega) (by omega)]
   rw[Z8 24 (x:=zQ s at_*16777216) (by omega) (by omega) (by omega) (by omega) (by omega) (by omega)]
   rw[Z8 16 (y:=zQ s (at_+2)*256) (by omega) (by omega) (by omega) (by omega) (by omega) (by omega)]
   rw[Z8 8 (y:=zQ s (at_+3)) (by omega) (by omega) (by omega) (by omega) (by omega) (by omega)]
def Rk {α:Type} (k_:Bool→α) (s:Bytes) (at_ n:Int):α:=
 k_ (bif decide (0≤at_) then bif decide (at_≤len s) then decide (n≤nS ((len s) - at_)) else false else false)
def qX (s:Bytes) (at_ n:Int):Bool:=Rk id s at_ n
theorem nl0 {α:Type} (k_:Bool→α) (s:Bytes) (at_ n:Int):Rk k_ s at_ n=k_ (qX s at_ n):=by
 rfl
def njS (k_:Int→α) (s:Bytes) (at_:Int):α:=
 bif !(qX s at_ 2) then k_ (-1)
 else bif Ei (Ei true (idx at_ s)) (idx (nS (at_+1)) s) then
   k_ (nS ((ncv .i64 (nS (zQ s at_)) 8)+(nS (zQ s (nS (at_+1))))))
  else ke
def px (s:Bytes) (at_:Int):Int:=bif !(qX s at_ 2) then -1 else (zQ s at_)*256+zQ s (at_+1)
theorem within_iff {s:Bytes} {at_ n:Int} (hs:s.length≤9223372036854775807):qX s at_ n=true↔0≤at_∧at_≤len s∧at_+n≤len s:=by
 have hl0:0≤len s:=by simp [len]
 have GL:len s≤9223372036854775807:=by simp only[len];omega
 unfold qX Rk
 by_cases h1:0≤at_
 ·by_cases h2:at_≤len s
  ·rw[nP (by omega) (by omega)]
   simp only[h1,h2,decide_true,cond_true,id,true_and]
   constructor
   ·intro h
    have:=of_decide_eq_true h
    omega
   ·intro h
    exact decide_eq_true (by omega)
  ·simp [h1,h2]
 ·simp [h1]
theorem ntK (k_:Int→α) (s:Bytes) (at_:Int) (yZ:G9 .str (.str s)):njS ke k_ s at_=k_ (px s at_):=by
 have hl:=yR yZ
 have hl0:0≤len s:=by simp [len]
 have GL:len s≤9223372036854775807:=by simp only[len];omega
 unfold njS px
 cases hw:qX s at_ 2
 ·rfl
 ·have hh:=(within_iff hl).1 hw
  have w1:nS (at_+1)=at_+1:=nP (by omega) (by omega)
  have dV:∀j:Int,0≤j→j<len s→idx j s=true:=by
   intro j h1 h2
   simp only[len] at h2
   simp only[idx,Bool.and_eq_true,decide_eq_true_eq]
   omega
  have b0:=tr s at_
  have c0:=vr s at_
  have b1:=tr s (at_+1)
  have c1:=vr s (at_+1)
  simp only[w1,dV at_ (by omega) (by omega),dV (at_+1) (by omega) (by omega),ng,cond_true,cond_false,Bool.not_true]
  rw[nP (n:=zQ s at_) (by omega) (by omega),nP (n:=zQ s (at_+1)) (by omega) (by omega),nwH,nP (n:=zQ s at_*256) (by omega) (by omega),nP (by omega) (by omega)]
def njT {α:Type} (k_:Int→α) (s:Bytes) (at_:Int):α:=
 bif !(qX s at_ 4) then k_ (-1)
 else k_ (nS ((ncv .i64 (px s at_) 16)+(px s (nS (at_+2)))))
theorem ntL {α:Type} (k_:Int→α) (s:Bytes) (at_:Int) (yZ:G9 .str (.str s)) (OL:G9 .i (.int at_)):njT k_ s at_=k_ (tT s at_):=by
 have hl:=yR yZ
 have hl0:0≤len s:=by simp [len]
 have GL:len s≤9223372036854775807:=by simp only[len];omega
 have ha:=vn OL
 unfold njT tT
 cases hw:qX s at_ 4
 ·have hh:¬(0≤at_∧at_≤len s∧at_+4≤len s):=fun h=>by rw[(within_iff hl).2 h] at hw;cases hw
  have:(bif decide (at_<0) then true else decide (len s<at_+4))=true:=by
   by_cases h1:at_<0
   ·simp [h1]
   ·simp only[h1,decide_false,cond_false,decide_eq_true_eq];omega
  rw[this]
  rfl
 ·have hh:=(within_iff hl).1 hw
  have:(bif decide (at_<0) then true else decide (len s<at_+4))=false:=by
   rw[show decide (at_<0)=false from decide_eq_false (by omega),show decide (len s<at_+4)=false from decide_eq_false (by omega)]
   rfl
  rw[this]
  have w2:nS (at_+2)=at_+2:=nP (by omega) (by omega)
  have h1:qX s at_ 2=true:=(within_iff hl).2 (by omega)
  have h2:qX s (at_+2) 2=true:=(within_iff hl).2 (by omega)
  have b0:=tr s at_
  have c0:=vr s at_
  have b1:=tr s (at_+1)
  have c1:=vr s (at_+1)
  have b2:=tr s (at_+2)
  have c2:=vr s (at_+2)
  have b3:=tr s (at_+3)
  have c3:=vr s (at_+3)
  have e:at_+2+1=at_+3:=by omega
  simp only[w2,px,h1,h2,e,Bool.not_true,cond_false]
  rw[nxb,nP (n:=(zQ s at_*256+zQ s (at_+1))*65536) (by omega) (by omega),nP (by omega) (by omega)]
  exact congrArg k_ (by omega)
def RD {α:Type} (k_:Bytes→α) (v:Int):α:=
 bif !(nh v 0 4294967295) then k_ []
 else k_ (toStr ([[.int (IntKind.wrap .u8 (nwZ .i64 v 24))],[.int (IntKind.wrap .u8 (nwZ .i64 v 16))],[.int (IntKind.wrap .u8 (nwZ .i64 v 8))],[.int (IntKind.wrap .u8 v)]]))
def qv (v:Int):Bytes:=RD id v
theorem nfQ {α:Type} (k_:Bytes→α) (v:Int):RD k_ v=k_ (qv v):=by
 exact Ka rfl rfl
end
end Go.Proofs.YtnlkklmcfafgeaaGreat.Pl
