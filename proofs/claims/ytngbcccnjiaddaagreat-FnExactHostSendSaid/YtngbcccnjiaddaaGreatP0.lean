/- Plain forms. Conditions: as each says. -/
import Derived.Test.YtngbcccnjiaddaaGreatPre
import Derived.Test.YtngbcccnjiaddaaGreatLem
import Derived.Test.YtngbcccnjiaddaaGreatDp
import Derived.Test.YtngbcccnjiaddaaGreatBit
set_option linter.unusedVariables false
set_option linter.unusedSimpArgs false
set_option maxRecDepth 100000
namespace Go.Proofs.YtngbcccnjiaddaaGreat.Pl
open Vm
noncomputable section
variable {α:Type} (ke:α)
structure nP where
 Kind:Int
 ql:Int
 qK:Int
 oN:Int
 oM:Int
def nP.enc (x:nP):List DC:=[.int x.Kind,.int x.ql,.int x.qK,.int x.oN,.int x.oM]
def nP.nd (r:List DC) (o:Nat):nP:=⟨rI r (o+0),rI r (o+1),rI r (o+2),rI r (o+3),rI r (o+4)⟩
def nP.ct:List CT:=[.i,.i,.i,.i,.i]
theorem nP.eta {r:List DC} (h:kc nP.ct r):(nP.nd r 0).enc=r:=(show (nP.nd r 0).enc=su nP.ct r 0 from by kernel_rfl).trans (qV h)
theorem nP.nA {r:List CT} {ds:List DC} (h:kc (nP.ct++r) ds):∃(x:nP) (aZ:List DC),ds=x.enc++aZ∧kc nP.ct x.enc∧kc r aZ:=by
 obtain⟨d1,d2,rfl,h1,h2⟩:=qk h
 exact⟨nP.nd d1 0,d2,by rw[nP.eta h1],by rw[nP.eta h1];exact h1,h2⟩
theorem nP.nsW {x:nP} (h:kc nP.ct x.enc):G1 .i (.int x.Kind):=oz 0 h rfl rfl
theorem nP.nmb {x:nP} (h:kc nP.ct x.enc):G1 .i (.int x.ql):=oz 1 h rfl rfl
theorem nP.nv8 {x:nP} (h:kc nP.ct x.enc):G1 .i (.int x.qK):=oz 2 h rfl rfl
theorem nP.njA {x:nP} (h:kc nP.ct x.enc):G1 .i (.int x.oN):=oz 3 h rfl rfl
theorem nP.njy {x:nP} (h:kc nP.ct x.enc):G1 .i (.int x.oM):=oz 4 h rfl rfl
structure qL where
 State:Int
 T8:nP
 Queue:Int
def qL.enc (x:qL):List DC:=[.int x.State,.int x.T8.Kind,.int x.T8.ql,.int x.T8.qK,.int x.T8.oN,.int x.T8.oM,.int x.Queue]
def qL.nd (r:List DC) (o:Nat):qL:=⟨rI r (o+0),nP.nd r (o+1),rI r (o+6)⟩
def qL.ct:List CT:=[.i,.i,.i,.i,.i,.i,.i]
theorem qL.eta {r:List DC} (h:kc qL.ct r):(qL.nd r 0).enc=r:=(show (qL.nd r 0).enc=su qL.ct r 0 from by kernel_rfl).trans (qV h)
theorem qL.nA {r:List CT} {ds:List DC} (h:kc (qL.ct++r) ds):∃(x:qL) (aZ:List DC),ds=x.enc++aZ∧kc qL.ct x.enc∧kc r aZ:=by
 obtain⟨d1,d2,rfl,h1,h2⟩:=qk h
 exact⟨qL.nd d1 0,d2,by rw[qL.eta h1],by rw[qL.eta h1];exact h1,h2⟩
theorem qL.nCo {x:qL} (h:kc qL.ct x.enc):kc nP.ct x.T8.enc:=yl 1 5 h
theorem qL.nB7 {x:qL} (h:kc qL.ct x.enc):G1 .i (.int x.Queue):=oz 6 h rfl rfl
structure na where
 nE:Rows
def na.enc (x:na):List DC:=[.sl x.nE]
def na.nd (r:List DC) (o:Nat):na:=⟨rR r (o+0)⟩
def na.ct:List CT:=[.sl [.str]]
theorem na.eta {r:List DC} (h:kc na.ct r):(na.nd r 0).enc=r:=(show (na.nd r 0).enc=su na.ct r 0 from by kernel_rfl).trans (qV h)
theorem na.nA {r:List CT} {ds:List DC} (h:kc (na.ct++r) ds):∃(x:na) (aZ:List DC),ds=x.enc++aZ∧kc na.ct x.enc∧kc r aZ:=by
 obtain⟨d1,d2,rfl,h1,h2⟩:=qk h
 exact⟨na.nd d1 0,d2,by rw[na.eta h1],by rw[na.eta h1];exact h1,h2⟩
theorem na.Qk {x:na} (h:kc na.ct x.enc):G1 (.sl [.str]) (.sl x.nE):=oz 0 h rfl rfl
structure nv where
 oG:Int
 nL:Int
 Count:Int
 oB:Rows
def nv.enc (x:nv):List DC:=[.int x.oG,.int x.nL,.int x.Count,.sl x.oB]
def nv.nd (r:List DC) (o:Nat):nv:=⟨rI r (o+0),rI r (o+1),rI r (o+2),rR r (o+3)⟩
def nv.ct:List CT:=[.i,.i,.i,.sl [.i]]
theorem nv.eta {r:List DC} (h:kc nv.ct r):(nv.nd r 0).enc=r:=(show (nv.nd r 0).enc=su nv.ct r 0 from by kernel_rfl).trans (qV h)
theorem nv.nA {r:List CT} {ds:List DC} (h:kc (nv.ct++r) ds):∃(x:nv) (aZ:List DC),ds=x.enc++aZ∧kc nv.ct x.enc∧kc r aZ:=by
 obtain⟨d1,d2,rfl,h1,h2⟩:=qk h
 exact⟨nv.nd d1 0,d2,by rw[nv.eta h1],by rw[nv.eta h1];exact h1,h2⟩
theorem nv.nA6 {x:nv} (h:kc nv.ct x.enc):G1 .i (.int x.oG):=oz 0 h rfl rfl
theorem nv.nsZ {x:nv} (h:kc nv.ct x.enc):G1 .i (.int x.nL):=oz 1 h rfl rfl
theorem nv.nv7 {x:nv} (h:kc nv.ct x.enc):G1 .i (.int x.Count):=oz 2 h rfl rfl
theorem nv.nsV {x:nv} (h:kc nv.ct x.enc):G1 (.sl [.i]) (.sl x.oB):=oz 3 h rfl rfl
structure oZ where
 yn:Int
 nF:Int
 OP:Rows
def oZ.enc (x:oZ):List DC:=[.int x.yn,.int x.nF,.sl x.OP]
def oZ.nd (r:List DC) (o:Nat):oZ:=⟨rI r (o+0),rI r (o+1),rR r (o+2)⟩
def oZ.ct:List CT:=[.i,.i,.sl [.i]]
theorem oZ.eta {r:List DC} (h:kc oZ.ct r):(oZ.nd r 0).enc=r:=(show (oZ.nd r 0).enc=su oZ.ct r 0 from by kernel_rfl).trans (qV h)
theorem oZ.nA {r:List CT} {ds:List DC} (h:kc (oZ.ct++r) ds):∃(x:oZ) (aZ:List DC),ds=x.enc++aZ∧kc oZ.ct x.enc∧kc r aZ:=by
 obtain⟨d1,d2,rfl,h1,h2⟩:=qk h
 exact⟨oZ.nd d1 0,d2,by rw[oZ.eta h1],by rw[oZ.eta h1];exact h1,h2⟩
theorem oZ.nBn {x:oZ} (h:kc oZ.ct x.enc):G1 .i (.int x.yn):=oz 0 h rfl rfl
theorem oZ.Wo {x:oZ} (h:kc oZ.ct x.enc):G1 .i (.int x.nF):=oz 1 h rfl rfl
theorem oZ.nv6 {x:oZ} (h:kc oZ.ct x.enc):G1 (.sl [.i]) (.sl x.OP):=oz 2 h rfl rfl
structure nB where
 oG:Int
 nL:Int
 Head:Int
 qG:Int
def nB.enc (x:nB):List DC:=[.int x.oG,.int x.nL,.int x.Head,.int x.qG]
def nB.nd (r:List DC) (o:Nat):nB:=⟨rI r (o+0),rI r (o+1),rI r (o+2),rI r (o+3)⟩
def nB.ct:List CT:=[.i,.i,.i,.i]
theorem nB.eta {r:List DC} (h:kc nB.ct r):(nB.nd r 0).enc=r:=(show (nB.nd r 0).enc=su nB.ct r 0 from by kernel_rfl).trans (qV h)
theorem nB.nA {r:List CT} {ds:List DC} (h:kc (nB.ct++r) ds):∃(x:nB) (aZ:List DC),ds=x.enc++aZ∧kc nB.ct x.enc∧kc r aZ:=by
 obtain⟨d1,d2,rfl,h1,h2⟩:=qk h
 exact⟨nB.nd d1 0,d2,by rw[nB.eta h1],by rw[nB.eta h1];exact h1,h2⟩
theorem nB.nA6 {x:nB} (h:kc nB.ct x.enc):G1 .i (.int x.oG):=oz 0 h rfl rfl
theorem nB.nsZ {x:nB} (h:kc nB.ct x.enc):G1 .i (.int x.nL):=oz 1 h rfl rfl
theorem nB.nCp {x:nB} (h:kc nB.ct x.enc):G1 .i (.int x.Head):=oz 2 h rfl rfl
theorem nB.nCt {x:nB} (h:kc nB.ct x.enc):G1 .i (.int x.qG):=oz 3 h rfl rfl
structure nh where
 Ring:nB
 nI:nv
 nr:Rows
 Next:Int
def nh.enc (x:nh):List DC:=[.int x.Ring.oG,.int x.Ring.nL,.int x.Ring.Head,.int x.Ring.qG,.int x.nI.oG,.int x.nI.nL,.int x.nI.Count,.sl x.nI.oB,.sl x.nr,.int x.Next]
def nh.nd (r:List DC) (o:Nat):nh:=⟨nB.nd r (o+0),nv.nd r (o+4),rR r (o+8),rI r (o+9)⟩
def nh.ct:List CT:=[.i,.i,.i,.i,.i,.i,.i,.sl [.i],.sl [.i,.i,.sl [.i]],.i]
theorem nh.eta {r:List DC} (h:kc nh.ct r):(nh.nd r 0).enc=r:=(show (nh.nd r 0).enc=su nh.ct r 0 from by kernel_rfl).trans (qV h)
theorem nh.nA {r:List CT} {ds:List DC} (h:kc (nh.ct++r) ds):∃(x:nh) (aZ:List DC),ds=x.enc++aZ∧kc nh.ct x.enc∧kc r aZ:=by
 obtain⟨d1,d2,rfl,h1,h2⟩:=qk h
 exact⟨nh.nd d1 0,d2,by rw[nh.eta h1],by rw[nh.eta h1];exact h1,h2⟩
theorem nh.nCs {x:nh} (h:kc nh.ct x.enc):kc nB.ct x.Ring.enc:=yl 0 4 h
theorem nh.nsY {x:nh} (h:kc nh.ct x.enc):kc nv.ct x.nI.enc:=yl 4 4 h
theorem nh.vR {x:nh} (h:kc nh.ct x.enc):G1 (.sl [.i,.i,.sl [.i]]) (.sl x.nr):=oz 8 h rfl rfl
theorem nh.nCr {x:nh} (h:kc nh.ct x.enc):G1 .i (.int x.Next):=oz 9 h rfl rfl
structure nD where
 Kind:Int
 oN:Int
 oM:Int
 Seq:Int
 Ack:Int
 Flags:Int
 tM:Int
 Body:Bytes
def nD.enc (x:nD):List DC:=[.int x.Kind,.int x.oN,.int x.oM,.int x.Seq,.int x.Ack,.int x.Flags,.int x.tM,.str x.Body]
def nD.nd (r:List DC) (o:Nat):nD:=⟨rI r (o+0),rI r (o+1),rI r (o+2),rI r (o+3),rI r (o+4),rI r (o+5),rI r (o+6),rS r (o+7)⟩
def nD.ct:List CT:=[.i,.i,.i,.i,.i,.i,.i,.str]
theorem nD.eta {r:List DC} (h:kc nD.ct r):(nD.nd r 0).enc=r:=(show (nD.nd r 0).enc=su nD.ct r 0 from by kernel_rfl).trans (qV h)
theorem nD.nA {r:List CT} {ds:List DC} (h:kc (nD.ct++r) ds):∃(x:nD) (aZ:List DC),ds=x.enc++aZ∧kc nD.ct x.enc∧kc r aZ:=by
 obtain⟨d1,d2,rfl,h1,h2⟩:=qk h
 exact⟨nD.nd d1 0,d2,by rw[nD.eta h1],by rw[nD.eta h1];exact h1,h2⟩
theorem nD.nsW {x:nD} (h:kc nD.ct x.enc):G1 .i (.int x.Kind):=oz 0 h rfl rfl
theorem nD.njA {x:nD} (h:kc nD.ct x.enc):G1 .i (.int x.oN):=oz 1 h rfl rfl
theorem nD.njy {x:nD} (h:kc nD.ct x.enc):G1 .i (.int x.oM):=oz 2 h rfl rfl
theorem nD.nB6 {x:nD} (h:kc nD.ct x.enc):G1 .i (.int x.Flags):=oz 5 h rfl rfl
theorem nD.nzp {x:nD} (h:kc nD.ct x.enc):G1 .str (.str x.Body):=oz 7 h rfl rfl
structure nx where
 we:Int
 wg:Int
 sQ:Int
 Tos:Int
 Id:Int
 Ttl:Int
 ql:Int
 qK:Int
 tU:nD
def nx.enc (x:nx):List DC:=[.int x.we,.int x.wg,.int x.sQ,.int x.Tos,.int x.Id,.int x.Ttl,.int x.ql,.int x.qK,.int x.tU.Kind,.int x.tU.oN,.int x.tU.oM,.int x.tU.Seq,.int x.tU.Ack,.int x.tU.Flags,.int x.tU.tM,.str x.tU.Body]
def nx.nd (r:List DC) (o:Nat):nx:=⟨rI r (o+0),rI r (o+1),rI r (o+2),rI r (o+3),rI r (o+4),rI r (o+5),rI r (o+6),rI r (o+7),nD.nd r (o+8)⟩
def nx.ct:List CT:=[.i,.i,.i,.i,.i,.i,.i,.i,.i,.i,.i,.i,.i,.i,.i,.str]
theorem nx.eta {r:List DC} (h:kc nx.ct r):(nx.nd r 0).enc=r:=(show (nx.nd r 0).enc=su nx.ct r 0 from by kernel_rfl).trans (qV h)
theorem nx.nA {r:List CT} {ds:List DC} (h:kc (nx.ct++r) ds):∃(x:nx) (aZ:List DC),ds=x.enc++aZ∧kc nx.ct x.enc∧kc r aZ:=by
 obtain⟨d1,d2,rfl,h1,h2⟩:=qk h
 exact⟨nx.nd d1 0,d2,by rw[nx.eta h1],by rw[nx.eta h1];exact h1,h2⟩
theorem nx.nA8 {x:nx} (h:kc nx.ct x.enc):G1 .i (.int x.sQ):=oz 2 h rfl rfl
theorem nx.nCV {x:nx} (h:kc nx.ct x.enc):G1 .i (.int x.Tos):=oz 3 h rfl rfl
theorem nx.nC3 {x:nx} (h:kc nx.ct x.enc):G1 .i (.int x.Id):=oz 4 h rfl rfl
theorem nx.nCW {x:nx} (h:kc nx.ct x.enc):G1 .i (.int x.Ttl):=oz 5 h rfl rfl
theorem nx.nmb {x:nx} (h:kc nx.ct x.enc):G1 .i (.int x.ql):=oz 6 h rfl rfl
theorem nx.nv8 {x:nx} (h:kc nx.ct x.enc):G1 .i (.int x.qK):=oz 7 h rfl rfl
theorem nx.nCT {x:nx} (h:kc nx.ct x.enc):kc nD.ct x.tU.enc:=yl 8 8 h
structure pe where
 oI:nx
 nL:Int
 Count:Int
def pe.enc (x:pe):List DC:=[.int x.oI.we,.int x.oI.wg,.int x.oI.sQ,.int x.oI.Tos,.int x.oI.Id,.int x.oI.Ttl,.int x.oI.ql,.int x.oI.qK,.int x.oI.tU.Kind,.int x.oI.tU.oN,.int x.oI.tU.oM,.int x.oI.tU.Seq,.int x.oI.tU.Ack,.int x.oI.tU.Flags,.int x.oI.tU.tM,.str x.oI.tU.Body,.int x.nL,.int x.Count]
def pe.nd (r:List DC) (o:Nat):pe:=⟨nx.nd r (o+0),rI r (o+16),rI r (o+17)⟩
def pe.ct:List CT:=[.i,.i,.i,.i,.i,.i,.i,.i,.i,.i,.i,.i,.i,.i,.i,.str,.i,.i]
theorem pe.eta {r:List DC} (h:kc pe.ct r):(pe.nd r 0).enc=r:=(show (pe.nd r 0).enc=su pe.ct r 0 from by kernel_rfl).trans (qV h)
theorem pe.nA {r:List CT} {ds:List DC} (h:kc (pe.ct++r) ds):∃(x:pe) (aZ:List DC),ds=x.enc++aZ∧kc pe.ct x.enc∧kc r aZ:=by
 obtain⟨d1,d2,rfl,h1,h2⟩:=qk h
 exact⟨pe.nd d1 0,d2,by rw[pe.eta h1],by rw[pe.eta h1];exact h1,h2⟩
theorem pe.nBo {x:pe} (h:kc pe.ct x.enc):kc nx.ct x.oI.enc:=yl 0 16 h
theorem pe.nsZ {x:pe} (h:kc pe.ct x.enc):G1 .i (.int x.nL):=oz 16 h rfl rfl
theorem pe.nv7 {x:pe} (h:kc pe.ct x.enc):G1 .i (.int x.Count):=oz 17 h rfl rfl
structure nn where
 oG:Int
 nL:Int
 Count:Int
def nn.enc (x:nn):List DC:=[.int x.oG,.int x.nL,.int x.Count]
def nn.nd (r:List DC) (o:Nat):nn:=⟨rI r (o+0),rI r (o+1),rI r (o+2)⟩
def nn.ct:List CT:=[.i,.i,.i]
theorem nn.eta {r:List DC} (h:kc nn.ct r):(nn.nd r 0).enc=r:=(show (nn.nd r 0).enc=su nn.ct r 0 from by kernel_rfl).trans (qV h)
theorem nn.nA {r:List CT} {ds:List DC} (h:kc (nn.ct++r) ds):∃(x:nn) (aZ:List DC),ds=x.enc++aZ∧kc nn.ct x.enc∧kc r aZ:=by
 obtain⟨d1,d2,rfl,h1,h2⟩:=qk h
 exact⟨nn.nd d1 0,d2,by rw[nn.eta h1],by rw[nn.eta h1];exact h1,h2⟩
theorem nn.nA6 {x:nn} (h:kc nn.ct x.enc):G1 .i (.int x.oG):=oz 0 h rfl rfl
theorem nn.nsZ {x:nn} (h:kc nn.ct x.enc):G1 .i (.int x.nL):=oz 1 h rfl rfl
theorem nn.nv7 {x:nn} (h:kc nn.ct x.enc):G1 .i (.int x.Count):=oz 2 h rfl rfl
structure nK where
 Ring:nB
 Device:nn
 Driver:nn
 rn:pe
 nfB:Bool
 nfA:Int
def nK.enc (x:nK):List DC:=[.int x.Ring.oG,.int x.Ring.nL,.int x.Ring.Head,.int x.Ring.qG,.int x.Device.oG,.int x.Device.nL,.int x.Device.Count,.int x.Driver.oG,.int x.Driver.nL,.int x.Driver.Count,.int x.rn.oI.we,.int x.rn.oI.wg,.int x.rn.oI.sQ,.int x.rn.oI.Tos,.int x.rn.oI.Id,.int x.rn.oI.Ttl,.int x.rn.oI.ql,.int x.rn.oI.qK,.int x.rn.oI.tU.Kind,.int x.rn.oI.tU.oN,.int x.rn.oI.tU.oM,.int x.rn.oI.tU.Seq,.int x.rn.oI.tU.Ack,.int x.rn.oI.tU.Flags,.int x.rn.oI.tU.tM,.str x.rn.oI.tU.Body,.int x.rn.nL,.int x.rn.Count,.bool x.nfB,.int x.nfA]
def nK.nd (r:List DC) (o:Nat):nK:=⟨nB.nd r (o+0),nn.nd r (o+4),nn.nd r (o+7),pe.nd r (o+10),rB r (o+28),rI r (o+29)⟩
def nK.ct:List CT:=[.i,.i,.i,.i,.i,.i,.i,.i,.i,.i,.i,.i,.i,.i,.i,.i,.i,.i,.i,.i,.i,.i,.i,.i,.i,.str,.i,.i,.bool,.i]
theorem nK.eta {r:List DC} (h:kc nK.ct r):(nK.nd r 0).enc=r:=(show (nK.nd r 0).enc=su nK.ct r 0 from by kernel_rfl).trans (qV h)
theorem nK.nA {r:List CT} {ds:List DC} (h:kc (nK.ct++r) ds):∃(x:nK) (aZ:List DC),ds=x.enc++aZ∧kc nK.ct x.enc∧kc r aZ:=by
 obtain⟨d1,d2,rfl,h1,h2⟩:=qk h
 exact⟨nK.nd d1 0,d2,by rw[nK.eta h1],by rw[nK.eta h1];exact h1,h2⟩
theorem nK.nCs {x:nK} (h:kc nK.ct x.enc):kc nB.ct x.Ring.enc:=yl 0 4 h
theorem nK.nCq {x:nK} (h:kc nK.ct x.enc):kc pe.ct x.rn.enc:=yl 10 18 h
structure nC where
 Mac:Int
 pS:Bool
 pH:Rows
def nC.enc (x:nC):List DC:=[.int x.Mac,.bool x.pS,.sl x.pH]
def nC.nd (r:List DC) (o:Nat):nC:=⟨rI r (o+0),rB r (o+1),rR r (o+2)⟩
def nC.ct:List CT:=[.i,.bool,.sl [.i]]
theorem nC.eta {r:List DC} (h:kc nC.ct r):(nC.nd r 0).enc=r:=(show (nC.nd r 0).enc=su nC.ct r 0 from by kernel_rfl).trans (qV h)
theorem nC.nA {r:List CT} {ds:List DC} (h:kc (nC.ct++r) ds):∃(x:nC) (aZ:List DC),ds=x.enc++aZ∧kc nC.ct x.enc∧kc r aZ:=by
 obtain⟨d1,d2,rfl,h1,h2⟩:=qk h
 exact⟨nC.nd d1 0,d2,by rw[nC.eta h1],by rw[nC.eta h1];exact h1,h2⟩
theorem nC.nv_ {x:nC} (h:kc nC.ct x.enc):G1 (.sl [.i]) (.sl x.pH):=oz 2 h rfl rfl
structure ni where
 nF:Rows
def ni.enc (x:ni):List DC:=[.sl x.nF]
def ni.nd (r:List DC) (o:Nat):ni:=⟨rR r (o+0)⟩
def ni.ct:List CT:=[.sl [.i,.i,.i,.i,.i,.i,.i]]
theorem ni.eta {r:List DC} (h:kc ni.ct r):(ni.nd r 0).enc=r:=(show (ni.nd r 0).enc=su ni.ct r 0 from by kernel_rfl).trans (qV h)
theorem ni.nA {r:List CT} {ds:List DC} (h:kc (ni.ct++r) ds):∃(x:ni) (aZ:List DC),ds=x.enc++aZ∧kc ni.ct x.enc∧kc r aZ:=by
 obtain⟨d1,d2,rfl,h1,h2⟩:=qk h
 exact⟨ni.nd d1 0,d2,by rw[ni.eta h1],by rw[ni.eta h1];exact h1,h2⟩
theorem ni.Wo {x:ni} (h:kc ni.ct x.enc):G1 (.sl [.i,.i,.i,.i,.i,.i,.i]) (.sl x.nF):=oz 0 h rfl rfl
structure nG where
 Key:Bytes
 Table:Rows
def nG.enc (x:nG):List DC:=[.str x.Key,.sl x.Table]
def nG.nd (r:List DC) (o:Nat):nG:=⟨rS r (o+0),rR r (o+1)⟩
def nG.ct:List CT:=[.str,.sl [.i]]
theorem nG.eta {r:List DC} (h:kc nG.ct r):(nG.nd r 0).enc=r:=(show (nG.nd r 0).enc=su nG.ct r 0 from by kernel_rfl).trans (qV h)
theorem nG.nA {r:List CT} {ds:List DC} (h:kc (nG.ct++r) ds):∃(x:nG) (aZ:List DC),ds=x.enc++aZ∧kc nG.ct x.enc∧kc r aZ:=by
 obtain⟨d1,d2,rfl,h1,h2⟩:=qk h
 exact⟨nG.nd d1 0,d2,by rw[nG.eta h1],by rw[nG.eta h1];exact h1,h2⟩
theorem nG.nCS {x:nG} (h:kc nG.ct x.enc):G1 .str (.str x.Key):=oz 0 h rfl rfl
theorem nG.Wp {x:nG} (h:kc nG.ct x.enc):G1 (.sl [.i]) (.sl x.Table):=oz 1 h rfl rfl
structure nk where
 oO:Rows
 Table:ni
 oF:nG
def nk.enc (x:nk):List DC:=[.sl x.oO,.sl x.Table.nF,.str x.oF.Key,.sl x.oF.Table]
def nk.nd (r:List DC) (o:Nat):nk:=⟨rR r (o+0),ni.nd r (o+1),nG.nd r (o+2)⟩
def nk.ct:List CT:=[.sl [.i,.i,.i,.i,.i,.i,.i,.i,.i],.sl [.i,.i,.i,.i,.i,.i,.i],.str,.sl [.i]]
theorem nk.eta {r:List DC} (h:kc nk.ct r):(nk.nd r 0).enc=r:=(show (nk.nd r 0).enc=su nk.ct r 0 from by kernel_rfl).trans (qV h)
theorem nk.nA {r:List CT} {ds:List DC} (h:kc (nk.ct++r) ds):∃(x:nk) (aZ:List DC),ds=x.enc++aZ∧kc nk.ct x.enc∧kc r aZ:=by
 obtain⟨d1,d2,rfl,h1,h2⟩:=qk h
 exact⟨nk.nd d1 0,d2,by rw[nk.eta h1],by rw[nk.eta h1];exact h1,h2⟩
theorem nk.nv9 {x:nk} (h:kc nk.ct x.enc):G1 (.sl [.i,.i,.i,.i,.i,.i,.i,.i,.i]) (.sl x.oO):=oz 0 h rfl rfl
theorem nk.Wp {x:nk} (h:kc nk.ct x.enc):kc ni.ct x.Table.enc:=yl 1 1 h
theorem nk.nBp {x:nk} (h:kc nk.ct x.enc):kc nG.ct x.oF.enc:=yl 2 2 h
structure om where
 T8:nP
 Next:Int
 Data:Bytes
 nB9:Bool
def om.enc (x:om):List DC:=[.int x.T8.Kind,.int x.T8.ql,.int x.T8.qK,.int x.T8.oN,.int x.T8.oM,.int x.Next,.str x.Data,.bool x.nB9]
def om.nd (r:List DC) (o:Nat):om:=⟨nP.nd r (o+0),rI r (o+5),rS r (o+6),rB r (o+7)⟩
def om.ct:List CT:=[.i,.i,.i,.i,.i,.i,.str,.bool]
theorem om.eta {r:List DC} (h:kc om.ct r):(om.nd r 0).enc=r:=(show (om.nd r 0).enc=su om.ct r 0 from by kernel_rfl).trans (qV h)
theorem om.nA {r:List CT} {ds:List DC} (h:kc (om.ct++r) ds):∃(x:om) (aZ:List DC),ds=x.enc++aZ∧kc om.ct x.enc∧kc r aZ:=by
 obtain⟨d1,d2,rfl,h1,h2⟩:=qk h
 exact⟨om.nd d1 0,d2,by rw[om.eta h1],by rw[om.eta h1];exact h1,h2⟩
theorem om.nCo {x:om} (h:kc om.ct x.enc):kc nP.ct x.T8.enc:=yl 0 5 h
theorem om.nCr {x:om} (h:kc om.ct x.enc):G1 .i (.int x.Next):=oz 5 h rfl rfl
theorem om.nCn {x:om} (h:kc om.ct x.enc):G1 .str (.str x.Data):=oz 6 h rfl rfl
structure ox where
 Frames:Int
 Bad:Int
 sk:Int
 t5:Int
 OV:Int
def ox.enc (x:ox):List DC:=[.int x.Frames,.int x.Bad,.int x.sk,.int x.t5,.int x.OV]
def ox.nd (r:List DC) (o:Nat):ox:=⟨rI r (o+0),rI r (o+1),rI r (o+2),rI r (o+3),rI r (o+4)⟩
def ox.ct:List CT:=[.i,.i,.i,.i,.i]
theorem ox.eta {r:List DC} (h:kc ox.ct r):(ox.nd r 0).enc=r:=(show (ox.nd r 0).enc=su ox.ct r 0 from by kernel_rfl).trans (qV h)
theorem ox.nA {r:List CT} {ds:List DC} (h:kc (ox.ct++r) ds):∃(x:ox) (aZ:List DC),ds=x.enc++aZ∧kc ox.ct x.enc∧kc r aZ:=by
 obtain⟨d1,d2,rfl,h1,h2⟩:=qk h
 exact⟨ox.nd d1 0,d2,by rw[ox.eta h1],by rw[ox.eta h1];exact h1,h2⟩
structure ny where
 ov:na
 Maps:Rows
 Tx:nh
 Rx:Rows
 ot:Rows
 og:Rows
 pd:Rows
 Filter:nC
 nz:nk
 pG:Rows
 sj:Bool
 wE:Rows
 oX:Rows
 pC:Rows
 Counters:ox
def ny.enc (x:ny):List DC:=[.sl x.ov.nE,.sl x.Maps,.int x.Tx.Ring.oG,.int x.Tx.Ring.nL,.int x.Tx.Ring.Head,.int x.Tx.Ring.qG,.int x.Tx.nI.oG,.int x.Tx.nI.nL,.int x.Tx.nI.Count,.sl x.Tx.nI.oB,.sl x.Tx.nr,.int x.Tx.Next,.sl x.Rx,.sl x.ot,.sl x.og,.sl x.pd,.int x.Filter.Mac,.bool x.Filter.pS,.sl x.Filter.pH,.sl x.nz.oO,.sl x.nz.Table.nF,.str x.nz.oF.Key,.sl x.nz.oF.Table,.sl x.pG,.bool x.sj,.sl x.wE,.sl x.oX,.sl x.pC,.int x.Counters.Frames,.int x.Counters.Bad,.int x.Counters.sk,.int x.Counters.t5,.int x.Counters.OV]
def ny.nd (r:List DC) (o:Nat):ny:=⟨na.nd r (o+0),rR r (o+1),nh.nd r (o+2),rR r (o+12),rR r (o+13),rR r (o+14),rR r (o+15),nC.nd r (o+16),nk.nd r (o+19),rR r (o+23),rB r (o+24),rR r (o+25),rR r (o+26),rR r (o+27),ox.nd r (o+28)⟩
def ny.ct:List CT:=[.sl [.str],.sl [.i,.i,.i,.bool],.i,.i,.i,.i,.i,.i,.i,.sl [.i],.sl [.i,.i,.sl [.i]],.i,.sl [.i,.i,.i,.i,.i,.i,.i,.i,.i,.i,.i,.i,.i,.i,.i,.i,.i,.i,.i,.i,.i,.i,.i,.i,.i,.str,.i,.i,.bool,.i],.sl [.i,.i,.i,.sl [.i]],.sl [.i,.i,.i,.i,.bool,.bool],.sl [.bool],.i,.bool,.sl [.i],.sl [.i,.i,.i,.i,.i,.i,.i,.i,.i],.sl [.i,.i,.i,.i,.i,.i,.i],.str,.sl [.i],.sl [.i,.i,.i,.i,.i,.i,.str,.bool],.bool,.sl [.str],.sl [.i],.sl [.i],.i,.i,.i,.i,.i]
theorem ny.eta {r:List DC} (h:kc ny.ct r):(ny.nd r 0).enc=r:=(show (ny.nd r 0).enc=su ny.ct r 0 from by kernel_rfl).trans (qV h)
theorem ny.nA {r:List CT} {ds:List DC} (h:kc (ny.ct++r) ds):∃(x:ny) (aZ:List DC),ds=x.enc++aZ∧kc ny.ct x.enc∧kc r aZ:=by
 obtain⟨d1,d2,rfl,h1,h2⟩:=qk h
 exact⟨ny.nd d1 0,d2,by rw[ny.eta h1],by rw[ny.eta h1];exact h1,h2⟩
theorem ny.noH {x:ny} (h:kc ny.ct x.enc):kc na.ct x.ov.enc:=yl 0 1 h
theorem ny.nsX {x:ny} (h:kc ny.ct x.enc):G1 (.sl [.i,.i,.i,.bool]) (.sl x.Maps):=oz 1 h rfl rfl
theorem ny.nA7 {x:ny} (h:kc ny.ct x.enc):kc nh.ct x.Tx.enc:=yl 2 10 h
theorem ny.nB8 {x:ny} (h:kc ny.ct x.enc):G1 (.sl [.i,.i,.i,.i,.i,.i,.i,.i,.i,.i,.i,.i,.i,.i,.i,.i,.i,.i,.i,.i,.i,.i,.i,.i,.i,.str,.i,.i,.bool,.i]) (.sl x.Rx):=oz 12 h rfl rfl
theorem ny.nfx {x:ny} (h:kc ny.ct x.enc):G1 (.sl [.i,.i,.i,.sl [.i]]) (.sl x.ot):=oz 13 h rfl rfl
theorem ny.njC {x:ny} (h:kc ny.ct x.enc):G1 (.sl [.i,.i,.i,.i,.bool,.bool]) (.sl x.og):=oz 14 h rfl rfl
theorem ny.njz {x:ny} (h:kc ny.ct x.enc):G1 (.sl [.bool]) (.sl x.pd):=oz 15 h rfl rfl
theorem ny.nyy {x:ny} (h:kc ny.ct x.enc):kc nC.ct x.Filter.enc:=yl 16 3 h
theorem ny.no5 {x:ny} (h:kc ny.ct x.enc):kc nk.ct x.nz.enc:=yl 19 4 h
theorem ny.njB {x:ny} (h:kc ny.ct x.enc):G1 (.sl [.i,.i,.i,.i,.i,.i,.str,.bool]) (.sl x.pG):=oz 23 h rfl rfl
theorem ny.nzq {x:ny} (h:kc ny.ct x.enc):G1 (.sl [.str]) (.sl x.wE):=oz 25 h rfl rfl
theorem ny.na0 {x:ny} (h:kc ny.ct x.enc):G1 (.sl [.i]) (.sl x.oX):=oz 26 h rfl rfl
theorem ny.nfy {x:ny} (h:kc ny.ct x.enc):G1 (.sl [.i]) (.sl x.pC):=oz 27 h rfl rfl
structure nY where
 Ub:Int
 naj:Int
 Count:Int
 Time:Int
 ns3:Bool
 nht:Bool
def nY.enc (x:nY):List DC:=[.int x.Ub,.int x.naj,.int x.Count,.int x.Time,.bool x.ns3,.bool x.nht]
def nY.nd (r:List DC) (o:Nat):nY:=⟨rI r (o+0),rI r (o+1),rI r (o+2),rI r (o+3),rB r (o+4),rB r (o+5)⟩
def nY.ct:List CT:=[.i,.i,.i,.i,.bool,.bool]
theorem nY.eta {r:List DC} (h:kc nY.ct r):(nY.nd r 0).enc=r:=(show (nY.nd r 0).enc=su nY.ct r 0 from by kernel_rfl).trans (qV h)
theorem nY.nA {r:List CT} {ds:List DC} (h:kc (nY.ct++r) ds):∃(x:nY) (aZ:List DC),ds=x.enc++aZ∧kc nY.ct x.enc∧kc r aZ:=by
 obtain⟨d1,d2,rfl,h1,h2⟩:=qk h
 exact⟨nY.nd d1 0,d2,by rw[nY.eta h1],by rw[nY.eta h1];exact h1,h2⟩
theorem nY.nv7 {x:nY} (h:kc nY.ct x.enc):G1 .i (.int x.Count):=oz 2 h rfl rfl
structure oR where
 nAo:Int
 nyF:Int
 ns4:Int
 ns6:Bool
def oR.enc (x:oR):List DC:=[.int x.nAo,.int x.nyF,.int x.ns4,.bool x.ns6]
def oR.nd (r:List DC) (o:Nat):oR:=⟨rI r (o+0),rI r (o+1),rI r (o+2),rB r (o+3)⟩
def oR.ct:List CT:=[.i,.i,.i,.bool]
theorem oR.eta {r:List DC} (h:kc oR.ct r):(oR.nd r 0).enc=r:=(show (oR.nd r 0).enc=su oR.ct r 0 from by kernel_rfl).trans (qV h)
theorem oR.nA {r:List CT} {ds:List DC} (h:kc (oR.ct++r) ds):∃(x:oR) (aZ:List DC),ds=x.enc++aZ∧kc oR.ct x.enc∧kc r aZ:=by
 obtain⟨d1,d2,rfl,h1,h2⟩:=qk h
 exact⟨oR.nd d1 0,d2,by rw[oR.eta h1],by rw[oR.eta h1];exact h1,h2⟩
structure pf where
 Priority:Int
 Kind:Int
 ql:Int
 njF:Int
 Qx:Int
 T_:Int
 sQ:Int
 Action:Int
 Queue:Int
def pf.enc (x:pf):List DC:=[.int x.Priority,.int x.Kind,.int x.ql,.int x.njF,.int x.Qx,.int x.T_,.int x.sQ,.int x.Action,.int x.Queue]
def pf.nd (r:List DC) (o:Nat):pf:=⟨rI r (o+0),rI r (o+1),rI r (o+2),rI r (o+3),rI r (o+4),rI r (o+5),rI r (o+6),rI r (o+7),rI r (o+8)⟩
def pf.ct:List CT:=[.i,.i,.i,.i,.i,.i,.i,.i,.i]
theorem pf.eta {r:List DC} (h:kc pf.ct r):(pf.nd r 0).enc=r:=(show (pf.nd r 0).enc=su pf.ct r 0 from by kernel_rfl).trans (qV h)
theorem pf.nA {r:List CT} {ds:List DC} (h:kc (pf.ct++r) ds):∃(x:pf) (aZ:List DC),ds=x.enc++aZ∧kc pf.ct x.enc∧kc r aZ:=by
 obtain⟨d1,d2,rfl,h1,h2⟩:=qk h
 exact⟨pf.nd d1 0,d2,by rw[pf.eta h1],by rw[pf.eta h1];exact h1,h2⟩
theorem pf.nsW {x:pf} (h:kc pf.ct x.enc):G1 .i (.int x.Kind):=oz 1 h rfl rfl
theorem pf.nmb {x:pf} (h:kc pf.ct x.enc):G1 .i (.int x.ql):=oz 2 h rfl rfl
theorem pf.nA8 {x:pf} (h:kc pf.ct x.enc):G1 .i (.int x.sQ):=oz 6 h rfl rfl
theorem pf.nB7 {x:pf} (h:kc pf.ct x.enc):G1 .i (.int x.Queue):=oz 8 h rfl rfl
def toL (rf:List DC→List DC) {α:Type} (ke:α) (k_:Rows→α) (a:Rows) (oD:Int→Rows→α) (i:Int) (out:Rows):α:=
 bif decide (i<len a) then bif Eb (Eb (Eb true (idx i a)) (idx i out)) (inl (Int.toNat i) out) then oD (nM (i+1)) (List.set out (Int.toNat i) (bQ (nth out (Int.toNat i)) 0 (rf (nth a (Int.toNat i))))) else ke else k_ out
def noB (rf:List DC→List DC) {α:Type} (ke:α) (k_:Rows→α) (N:Nat) (a:Rows) (m_:Nat):Int→Rows→α:=
 Nat.rec (motive:=fun _=>Int→Rows→α) (fun _ _=>ke) (fun _ oD=>toL rf ke k_ a oD) m_
def toT (z:Nat) (d:List DC) {α:Type} (ke:α) (k_:Rows→α) (l0:Int→Rows→α) (a:Rows):α:=
 bif Eb true (yB z (len a) (len a)) then l0 0 (List.replicate (Int.toNat (len a)) d) else ke
def naf (z:Nat) (d:List DC) (rf:List DC→List DC) {α:Type} (ke:α) (k_:Rows→α) (N:Nat) (a:Rows):α:=toT z d ke k_ (noB rf ke k_ N a N) a
theorem nzo {α:Type} (z:Nat) (hz:z≤8388608) (d:List DC) (rf:List DC→List DC) (ke:α) (k_:Rows→α) (a:Rows) (hl:a.length≤9223372036854775807) (Jb:sm a=true) (hr:∀r∈a,bQ d 0 (rf r)=r):∃N,naf z d rf ke k_ N a=k_ a:=by
 refine⟨a.length+1, ?_⟩
 unfold naf toT
 have e0:Int.toNat (len a)=a.length:=by simp [len]
 simp only[ny4 Jb hz,ng,cond_true,e0]
 refine nta a (noB rf ke k_ (a.length+1) a) k_ d (fun o r=>bQ o 0 (rf r)) ?_ ?_ hr
 ·intro n i out h ho
  show toL rf ke k_ a (noB rf ke k_ (a.length+1) a n) (i:Int) out=_
  simp only[toL,oL h,nT h,nyM ho h,sZ (show i<out.length by omega),oa h hl,Int.toNat_natCast,ng,nm,cond_true]
 ·intro n out ho
  show toL rf ke k_ a (noB rf ke k_ (a.length+1) a n) (a.length:Int) out=_
  simp only[toL,nN,cond_false]
def eqL {σ:Type} (dec:List DC→σ) {α:Type} (ke:α) (k_:Bool→α) (a b:Rows) (oD:Int→α) (i:Int):α:=
 bif decide (i<len a) then bif Eb (Eb (Eb true (idx i a)) (idx i b)) (same (dec (nth a (Int.toNat i))) (dec (nth b (Int.toNat i)))) then bif !(pc (dec (nth a (Int.toNat i))) (dec (nth b (Int.toNat i)))) then k_ false else oD (nM (i+1)) else ke else k_ true
def no8 {σ:Type} (dec:List DC→σ) {α:Type} (ke:α) (k_:Bool→α) (N:Nat) (a b:Rows) (m_:Nat):Int→α:=
 Nat.rec (motive:=fun _=>Int→α) (fun _=>ke) (fun _ oD=>eqL dec ke k_ a b oD) m_
def eqT {α:Type} (ke:α) (k_:Bool→α) (l0:Int→α) (a b:Rows):α:=bif (len a) != (len b) then k_ false else l0 0
def nc6 {σ:Type} (dec:List DC→σ) {α:Type} (ke:α) (k_:Bool→α) (N:Nat) (a b:Rows):α:=eqT ke k_ (no8 dec ke k_ N a b N) a b
theorem nzA {α σ:Type} (dec:List DC→σ) (ke:α) (k_:Bool→α) (a b:Rows) (hl:a.length≤9223372036854775807) (aJ:same a b=true):∃N,nc6 dec ke k_ N a b=k_ (pc a b):=by
 obtain rfl:=rh aJ
 refine⟨a.length+1, ?_⟩
 unfold nc6 eqT
 simp only[bne_self_eq_false,cond_false]
 refine (qS a (no8 dec ke k_ (a.length+1) a a) (fun _ _ c=>c) (k_ true) ?_ ?_).trans (nsR _ _ _)
 ·intro n i h
  show eqL dec ke k_ a a (no8 dec ke k_ (a.length+1) a a n) (i:Int)=_
  simp only[eqL,oL h,nT h,oa h hl,Int.toNat_natCast,ng,nm,cond_true,cond_false,pA,pc,Bool.not_true]
 ·intro n
  show eqL dec ke k_ a a (no8 dec ke k_ (a.length+1) a a n) (a.length:Int)=_
  simp only[eqL,nN,cond_false]
def nxm {α:Type} (k_:nP→α) (a:nP):α:=
 k_ a
theorem nxl {α:Type} (k_:nP→α) (a:nP):nxm k_ a=k_ (oE a):=by
 rfl
def nxH {α:Type} (k_:qL→α) (a:qL):α:=
 k_ (⟨a.State,oE a.T8,a.Queue⟩:qL)
theorem nxF {α:Type} (k_:qL→α) (a:qL):nxH k_ a=k_ (oE a):=by
 rfl
def yb (k_:Int→α) (a:Rows) (oD:Int→Int→α) (t9 i:Int):α:=
 let z0:Int:=nM (t9 - (len (rS (nth a (Int.toNat i)) 0)))
 bif decide (i<len a) then
  bif Eb true (idx i a) then
   bif decide (z0<0) then k_ (-1)
   else oD z0 (nM (i+1))
  else ke
 else k_ t9
def ya (k_:Int→α) (N:Nat) (a:Rows) (m_:Nat):Int→Int→α:=
 Nat.rec (motive:=fun _=>Int→Int→α) (fun _ _=>ke) (fun _ oD=>yb ke k_ a oD) m_
theorem TK (k_:Int→α) (N:Nat) (a:Rows) (m_:Nat):ya ke k_ N a (m_+1)=yb ke k_ a (ya ke k_ N a m_):=rfl
def Rc {α:Type} (ke:α) (k_:Int→α) (l0:Int→Int→α) (a:Rows) (left:Int):α:=
 bif decide (nM (left - (len a))<0) then k_ (-1)
 else l0 (nM (left - (len a))) 0
def ZI (k_:Int→α) (N:Nat) (a:Rows) (left:Int):α:=Rc ke k_ (ya ke k_ N a N) a left
def p9 (a:Rows) (left:Int):Int:=TR (fun r l=>nM (l - len (rS r 0))) a left
theorem nnE (k_:Int→α) (a:Rows) (left:Int) (pU:G1 (.sl [.str]) (.sl a)):∃N,ZI ke k_ N a left=k_ (p9 a left):=by
 obtain⟨hl,_⟩:=oh pU
 refine⟨a.length+1, ?_⟩
 unfold ZI Rc p9 TR
 refine J5 rfl ?_
 refine (T3 a (fun n i l=>ya ke k_ (a.length+1) a n l i) (fun _ r c l=>bif decide ((fun r l=>nM (l - len (rS r 0))) r l<0) then k_ (-1) else c ((fun r l=>nM (l - len (rS r 0))) r l)) k_ ?_ ?_ _).trans (nym (fun r l=>nM (l - len (rS r 0))) k_ a 0 _)
 ·intro n i l h
  try dsimp only
  rw[TK]
  simp only[yb,oL h,nT h,oa h hl,Int.toNat_natCast,ng,nm,cond_true]
 ·intro n l
  try dsimp only
  rw[TK]
  simp only[yb,nN,cond_false]
def SJ {α:Type} (k_:Int→α) (a:na) (left:Int):α:=
 bif decide (p9 a.nE left<0) then k_ (-1)
 else k_ (p9 a.nE left)
def n_ (a:na) (left:Int):Int:=SJ id a left
theorem nq6 {α:Type} (k_:Int→α) (a:na) (left:Int):SJ k_ a left=k_ (n_ a left):=by
 exact J5 rfl rfl
def nla {α:Type} (k_:Int→α) (a:Rows) (left:Int):α:=
 bif decide (nM (left - (len a))<0) then k_ (-1)
 else k_ (nM (left - (len a)))
theorem nk9 {α:Type} (k_:Int→α) (a:Rows) (left:Int):nla k_ a left=k_ (nZ a left):=by
 exact J5 rfl rfl
def nxd {α:Type} (k_:Int→α) (a:Rows) (left:Int):α:=
 bif decide (nM (left - (len a))<0) then k_ (-1)
 else k_ (nM (left - (len a)))
theorem nxc {α:Type} (k_:Int→α) (a:Rows) (left:Int):nxd k_ a left=k_ (nZ a left):=by
 exact J5 rfl rfl
def RG {α:Type} (k_:Int→α) (a:nv) (left:Int):α:=
 bif decide (nZ a.oB left<0) then k_ (-1)
 else k_ (nZ a.oB left)
def qy (a:nv) (left:Int):Int:=RG id a left
theorem nxf {α:Type} (k_:Int→α) (a:nv) (left:Int):RG k_ a left=k_ (qy a left):=by
 exact J5 rfl rfl
def RH {α:Type} (k_:Int→α) (a:oZ) (left:Int):α:=
 bif decide (nZ a.OP left<0) then k_ (-1)
 else k_ (nZ a.OP left)
def rl (a:oZ) (left:Int):Int:=RH id a left
theorem nxi {α:Type} (k_:Int→α) (a:oZ) (left:Int):RH k_ a left=k_ (rl a left):=by
 exact J5 rfl rfl
def NP (k_:Int→α) (a:Rows) (oD:Int→Int→α) (t9 i:Int):α:=
 let z0:Int:=rl (oZ.nd (nth a (Int.toNat i)) 0) t9
 bif decide (i<len a) then
  bif Eb true (idx i a) then
   bif decide (z0<0) then k_ (-1)
   else oD z0 (nM (i+1))
  else ke
 else k_ t9
def NN (k_:Int→α) (N:Nat) (a:Rows) (m_:Nat):Int→Int→α:=
 Nat.rec (motive:=fun _=>Int→Int→α) (fun _ _=>ke) (fun _ oD=>NP ke k_ a oD) m_
theorem Xf (k_:Int→α) (N:Nat) (a:Rows) (m_:Nat):NN ke k_ N a (m_+1)=NP ke k_ a (NN ke k_ N a m_):=rfl
def Vx {α:Type} (ke:α) (k_:Int→α) (l0:Int→Int→α) (a:Rows) (left:Int):α:=
 bif decide (nM (left - (len a))<0) then k_ (-1)
 else l0 (nM (left - (len a))) 0
def neh (k_:Int→α) (N:Nat) (a:Rows) (left:Int):α:=Vx ke k_ (NN ke k_ N a N) a left
def sH (a:Rows) (left:Int):Int:=TR (fun r l=>rl (oZ.nd r 0) l) a left
theorem nuq (k_:Int→α) (a:Rows) (left:Int) (pU:G1 (.sl [.i,.i,.sl [.i]]) (.sl a)):∃N,neh ke k_ N a left=k_ (sH a left):=by
 obtain⟨hl,_⟩:=oh pU
 refine⟨a.length+1, ?_⟩
 unfold neh Vx sH TR
 refine J5 rfl ?_
 refine (T3 a (fun n i l=>NN ke k_ (a.length+1) a n l i) (fun _ r c l=>bif decide ((fun r l=>rl (oZ.nd r 0) l) r l<0) then k_ (-1) else c ((fun r l=>rl (oZ.nd r 0) l) r l)) k_ ?_ ?_ _).trans (nym (fun r l=>rl (oZ.nd r 0) l) k_ a 0 _)
 ·intro n i l h
  try dsimp only
  rw[Xf]
  simp only[NP,oL h,nT h,oa h hl,Int.toNat_natCast,ng,nm,cond_true]
 ·intro n l
  try dsimp only
  rw[Xf]
  simp only[NP,nN,cond_false]
def wx {α:Type} (k_:Int→α) (a:nh) (left:Int):α:=
 let z0:Int:=sH a.nr (qy a.nI left)
 bif decide (qy a.nI left<0) then k_ (-1)
 else bif decide (z0<0) then k_ (-1)
 else k_ z0
def n8 (a:nh) (left:Int):Int:=wx id a left
theorem nnG {α:Type} (k_:Int→α) (a:nh) (left:Int):wx k_ a left=k_ (n8 a left):=by
 exact J5 rfl (J5 rfl rfl)
def Q_ {α:Type} (k_:Int→α) (a:nD) (left:Int):α:=
 let z0:Int:=nM (left - (len a.Body))
 bif decide (z0<0) then k_ (-1)
 else k_ z0
def tB (a:nD) (left:Int):Int:=Q_ id a left
theorem nnx {α:Type} (k_:Int→α) (a:nD) (left:Int):Q_ k_ a left=k_ (tB a left):=by
 exact J5 rfl rfl
def SL {α:Type} (k_:Int→α) (a:nx) (left:Int):α:=
 bif decide (tB a.tU left<0) then k_ (-1)
 else k_ (tB a.tU left)
def sf (a:nx) (left:Int):Int:=SL id a left
theorem nq_ {α:Type} (k_:Int→α) (a:nx) (left:Int):SL k_ a left=k_ (sf a left):=by
 exact J5 rfl rfl
def Vz {α:Type} (k_:Int→α) (a:pe) (left:Int):α:=
 bif decide (sf a.oI left<0) then k_ (-1)
 else k_ (sf a.oI left)
def vu (a:pe) (left:Int):Int:=Vz id a left
theorem nuy {α:Type} (k_:Int→α) (a:pe) (left:Int):Vz k_ a left=k_ (vu a left):=by
 exact J5 rfl rfl
def QZ {α:Type} (k_:Int→α) (a:nK) (left:Int):α:=
 bif decide (vu a.rn left<0) then k_ (-1)
 else k_ (vu a.rn left)
def rJ (a:nK) (left:Int):Int:=QZ id a left
theorem nnu {α:Type} (k_:Int→α) (a:nK) (left:Int):QZ k_ a left=k_ (rJ a left):=by
 exact J5 rfl rfl
def wX (k_:Int→α) (a:Rows) (oD:Int→Int→α) (t9 i:Int):α:=
 let z0:Int:=rJ (nK.nd (nth a (Int.toNat i)) 0) t9
 bif decide (i<len a) then
  bif Eb true (idx i a) then
   bif decide (z0<0) then k_ (-1)
   else oD z0 (nM (i+1))
  else ke
 else k_ t9
def wW (k_:Int→α) (N:Nat) (a:Rows) (m_:Nat):Int→Int→α:=
 Nat.rec (motive:=fun _=>Int→Int→α) (fun _ _=>ke) (fun _ oD=>wX ke k_ a oD) m_
theorem R3 (k_:Int→α) (N:Nat) (a:Rows) (m_:Nat):wW ke k_ N a (m_+1)=wX ke k_ a (wW ke k_ N a m_):=rfl
def PK {α:Type} (ke:α) (k_:Int→α) (l0:Int→Int→α) (a:Rows) (left:Int):α:=
 bif decide (nM (left - (len a))<0) then k_ (-1)
 else l0 (nM (left - (len a))) 0
def Xe (k_:Int→α) (N:Nat) (a:Rows) (left:Int):α:=PK ke k_ (wW ke k_ N a N) a left
def oA (a:Rows) (left:Int):Int:=TR (fun r l=>rJ (nK.nd r 0) l) a left
theorem nlb (k_:Int→α) (a:Rows) (left:Int) (pU:G1 (.sl [.i,.i,.i,.i,.i,.i,.i,.i,.i,.i,.i,.i,.i,.i,.i,.i,.i,.i,.i,.i,.i,.i,.i,.i,.i,.str,.i,.i,.bool,.i]) (.sl a)):∃N,Xe ke k_ N a left=k_ (oA a left):=by
 obtain⟨hl,_⟩:=oh pU
 refine⟨a.length+1, ?_⟩
 unfold Xe PK oA TR
 refine J5 rfl ?_
 refine (T3 a (fun n i l=>wW ke k_ (a.length+1) a n l i) (fun _ r c l=>bif decide ((fun r l=>rJ (nK.nd r 0) l) r l<0) then k_ (-1) else c ((fun r l=>rJ (nK.nd r 0) l) r l)) k_ ?_ ?_ _).trans (nym (fun r l=>rJ (nK.nd r 0) l) k_ a 0 _)
 ·intro n i l h
  try dsimp only
  rw[R3]
  simp only[wX,oL h,nT h,oa h hl,Int.toNat_natCast,ng,nm,cond_true]
 ·intro n l
  try dsimp only
  rw[R3]
  simp only[wX,nN,cond_false]
def NM (k_:Int→α) (a:Rows) (oD:Int→Int→α) (t9 i:Int):α:=
 let z0:Int:=qy (nv.nd (nth a (Int.toNat i)) 0) t9
 bif decide (i<len a) then
  bif Eb true (idx i a) then
   bif decide (z0<0) then k_ (-1)
   else oD z0 (nM (i+1))
  else ke
 else k_ t9
def NL (k_:Int→α) (N:Nat) (a:Rows) (m_:Nat):Int→Int→α:=
 Nat.rec (motive:=fun _=>Int→Int→α) (fun _ _=>ke) (fun _ oD=>NM ke k_ a oD) m_
theorem Xa (k_:Int→α) (N:Nat) (a:Rows) (m_:Nat):NL ke k_ N a (m_+1)=NM ke k_ a (NL ke k_ N a m_):=rfl
def Vu {α:Type} (ke:α) (k_:Int→α) (l0:Int→Int→α) (a:Rows) (left:Int):α:=
 bif decide (nM (left - (len a))<0) then k_ (-1)
 else l0 (nM (left - (len a))) 0
def neb (k_:Int→α) (N:Nat) (a:Rows) (left:Int):α:=Vu ke k_ (NL ke k_ N a N) a left
def pg (a:Rows) (left:Int):Int:=TR (fun r l=>qy (nv.nd r 0) l) a left
theorem nuj (k_:Int→α) (a:Rows) (left:Int) (pU:G1 (.sl [.i,.i,.i,.sl [.i]]) (.sl a)):∃N,neb ke k_ N a left=k_ (pg a left):=by
 obtain⟨hl,_⟩:=oh pU
 refine⟨a.length+1, ?_⟩
 unfold neb Vu pg TR
 refine J5 rfl ?_
 refine (T3 a (fun n i l=>NL ke k_ (a.length+1) a n l i) (fun _ r c l=>bif decide ((fun r l=>qy (nv.nd r 0) l) r l<0) then k_ (-1) else c ((fun r l=>qy (nv.nd r 0) l) r l)) k_ ?_ ?_ _).trans (nym (fun r l=>qy (nv.nd r 0) l) k_ a 0 _)
 ·intro n i l h
  try dsimp only
  rw[Xa]
  simp only[NM,oL h,nT h,oa h hl,Int.toNat_natCast,ng,nm,cond_true]
 ·intro n l
  try dsimp only
  rw[Xa]
  simp only[NM,nN,cond_false]
def nnL {α:Type} (k_:Int→α) (a:Rows) (left:Int):α:=
 bif decide (nM (left - (len a))<0) then k_ (-1)
 else k_ (nM (left - (len a)))
theorem nnJ {α:Type} (k_:Int→α) (a:Rows) (left:Int):nnL k_ a left=k_ (nZ a left):=by
 exact J5 rfl rfl
def nuh {α:Type} (k_:Int→α) (a:Rows) (left:Int):α:=
 bif decide (nM (left - (len a))<0) then k_ (-1)
 else k_ (nM (left - (len a)))
theorem nuf {α:Type} (k_:Int→α) (a:Rows) (left:Int):nuh k_ a left=k_ (nZ a left):=by
 exact J5 rfl rfl
def SI {α:Type} (k_:Int→α) (a:nC) (left:Int):α:=
 bif decide (nZ a.pH left<0) then k_ (-1)
 else k_ (nZ a.pH left)
def pJ (a:nC) (left:Int):Int:=SI id a left
theorem nq1 {α:Type} (k_:Int→α) (a:nC) (left:Int):SI k_ a left=k_ (pJ a left):=by
 exact J5 rfl rfl
def nup {α:Type} (k_:Int→α) (a:Rows) (left:Int):α:=
 bif decide (nM (left - (len a))<0) then k_ (-1)
 else k_ (nM (left - (len a)))
theorem nun {α:Type} (k_:Int→α) (a:Rows) (left:Int):nup k_ a left=k_ (nZ a left):=by
 exact J5 rfl rfl
def nuw {α:Type} (k_:Int→α) (a:Rows) (left:Int):α:=
 bif decide (nM (left - (len a))<0) then k_ (-1)
 else k_ (nM (left - (len a)))
theorem nuu {α:Type} (k_:Int→α) (a:Rows) (left:Int):nuw k_ a left=k_ (nZ a left):=by
 exact J5 rfl rfl
def Ow {α:Type} (k_:Int→α) (a:ni) (left:Int):α:=
 bif decide (nZ a.nF left<0) then k_ (-1)
 else k_ (nZ a.nF left)
def rW (a:ni) (left:Int):Int:=Ow id a left
theorem niK {α:Type} (k_:Int→α) (a:ni) (left:Int):Ow k_ a left=k_ (rW a left):=by
 exact J5 rfl rfl
def SN {α:Type} (k_:Int→α) (a:nG) (left:Int):α:=
 let z0:Int:=nM (left - (len a.Key))
 let z1:Int:=nZ a.Table z0
 bif decide (z0<0) then k_ (-1)
 else bif decide (z1<0) then k_ (-1)
 else k_ z1
def vJ (a:nG) (left:Int):Int:=SN id a left
theorem nre {α:Type} (k_:Int→α) (a:nG) (left:Int):SN k_ a left=k_ (vJ a left):=by
 exact J5 rfl (J5 rfl rfl)
def PL {α:Type} (k_:Int→α) (a:nk) (left:Int):α:=
 let z0:Int:=rW a.Table (nZ a.oO left)
 let z1:Int:=vJ a.oF z0
 bif decide (nZ a.oO left<0) then k_ (-1)
 else bif decide (z0<0) then k_ (-1)
 else bif decide (z1<0) then k_ (-1)
 else k_ z1
def pD (a:nk) (left:Int):Int:=PL id a left
theorem nlh {α:Type} (k_:Int→α) (a:nk) (left:Int):PL k_ a left=k_ (pD a left):=by
 exact J5 rfl (J5 rfl (J5 rfl rfl))
def SP {α:Type} (k_:Int→α) (a:om) (left:Int):α:=
 let z0:Int:=nM (left - (len a.Data))
 bif decide (z0<0) then k_ (-1)
 else k_ z0
def sg (a:om) (left:Int):Int:=SP id a left
theorem nrh {α:Type} (k_:Int→α) (a:om) (left:Int):SP k_ a left=k_ (sg a left):=by
 exact J5 rfl rfl
def x_ (k_:Int→α) (a:Rows) (oD:Int→Int→α) (t9 i:Int):α:=
 let z0:Int:=sg (om.nd (nth a (Int.toNat i)) 0) t9
 bif decide (i<len a) then
  bif Eb true (idx i a) then
   bif decide (z0<0) then k_ (-1)
   else oD z0 (nM (i+1))
  else ke
 else k_ t9
def x9 (k_:Int→α) (N:Nat) (a:Rows) (m_:Nat):Int→Int→α:=
 Nat.rec (motive:=fun _=>Int→Int→α) (fun _ _=>ke) (fun _ oD=>x_ ke k_ a oD) m_
theorem TJ (k_:Int→α) (N:Nat) (a:Rows) (m_:Nat):x9 ke k_ N a (m_+1)=x_ ke k_ a (x9 ke k_ N a m_):=rfl
def Rb {α:Type} (ke:α) (k_:Int→α) (l0:Int→Int→α) (a:Rows) (left:Int):α:=
 bif decide (nM (left - (len a))<0) then k_ (-1)
 else l0 (nM (left - (len a))) 0
def ZF (k_:Int→α) (N:Nat) (a:Rows) (left:Int):α:=Rb ke k_ (x9 ke k_ N a N) a left
def qz (a:Rows) (left:Int):Int:=TR (fun r l=>sg (om.nd r 0) l) a left
theorem nnA (k_:Int→α) (a:Rows) (left:Int) (pU:G1 (.sl [.i,.i,.i,.i,.i,.i,.str,.bool]) (.sl a)):∃N,ZF ke k_ N a left=k_ (qz a left):=by
 obtain⟨hl,_⟩:=oh pU
 refine⟨a.length+1, ?_⟩
 unfold ZF Rb qz TR
 refine J5 rfl ?_
 refine (T3 a (fun n i l=>x9 ke k_ (a.length+1) a n l i) (fun _ r c l=>bif decide ((fun r l=>sg (om.nd r 0) l) r l<0) then k_ (-1) else c ((fun r l=>sg (om.nd r 0) l) r l)) k_ ?_ ?_ _).trans (nym (fun r l=>sg (om.nd r 0) l) k_ a 0 _)
 ·intro n i l h
  try dsimp only
  rw[TJ]
  simp only[x_,oL h,nT h,oa h hl,Int.toNat_natCast,ng,nm,cond_true]
 ·intro n l
  try dsimp only
  rw[TJ]
  simp only[x_,nN,cond_false]
def zY {α:Type} (k_:Int→α) (a:ny) (left:Int):α:=
 let z0:Int:=nZ a.Maps (n_ a.ov left)
 let z1:Int:=n8 a.Tx z0
 let z2:Int:=oA a.Rx z1
 let z3:Int:=pg a.ot z2
 let z4:Int:=nZ a.og z3
 let z5:Int:=nZ a.pd z4
 let z6:Int:=pJ a.Filter z5
 let z7:Int:=pD a.nz z6
 let z8:Int:=qz a.pG z7
 let z9:Int:=p9 a.wE z8
 let z10:Int:=nZ a.oX z9
 let z11:Int:=nZ a.pC z10
 bif decide (n_ a.ov left<0) then k_ (-1)
 else bif decide (z0<0) then k_ (-1)
 else bif decide (z1<0) then k_ (-1)
 else bif decide (z2<0) then k_ (-1)
 else bif decide (z3<0) then k_ (-1)
 else bif decide (z4<0) then k_ (-1)
 else bif decide (z5<0) then k_ (-1)
 else bif decide (z6<0) then k_ (-1)
 else bif decide (z7<0) then k_ (-1)
 else bif decide (z8<0) then k_ (-1)
 else bif decide (z9<0) then k_ (-1)
 else bif decide (z10<0) then k_ (-1)
 else bif decide (z11<0) then k_ (-1)
 else k_ z11
def rX (a:ny) (left:Int):Int:=zY id a left
theorem nw_ {α:Type} (k_:Int→α) (a:ny) (left:Int):zY k_ a left=k_ (rX a left):=by
 exact J5 rfl (J5 rfl (J5 rfl (J5 rfl (J5 rfl (J5 rfl (J5 rfl (J5 rfl (J5 rfl (J5 rfl (J5 rfl (J5 rfl (J5 rfl rfl))))))))))))
def PF (k_:Bool→α) (a b:Rows) (oD:Int→α) (i:Int):α:=
 bif decide (i<len a) then
  bif Eb (Eb true (idx i a)) (idx i b) then
   bif (rI (nth a (Int.toNat i)) 0) != (rI (nth b (Int.toNat i)) 0) then k_ false
   else oD (nM (i+1))
  else ke
 else k_ true
def PE (k_:Bool→α) (N:Nat) (a b:Rows) (m_:Nat):Int→α:=
 Nat.rec (motive:=fun _=>Int→α) (fun _=>ke) (fun _ oD=>PF ke k_ a b oD) m_
theorem YM (k_:Bool→α) (N:Nat) (a b:Rows) (m_:Nat):PE ke k_ N a b (m_+1)=PF ke k_ a b (PE ke k_ N a b m_):=rfl
def Ye {α:Type} (ke:α) (k_:Bool→α) (l0:Int→α) (a b:Rows):α:=
 bif (len a) != (len b) then k_ false
 else l0 0
def ngZ (k_:Bool→α) (N:Nat) (a b:Rows):α:=Ye ke k_ (PE ke k_ N a b N) a b
theorem nwU (k_:Bool→α) (a b:Rows) (pU:G1 (.sl [.i]) (.sl a)) (aJ:same a b=true):∃N,ngZ ke k_ N a b=k_ (pc a b):=by
 obtain rfl:=rh aJ
 obtain⟨hl,_⟩:=oh pU
 refine⟨a.length+1, ?_⟩
 unfold ngZ Ye
 simp only[bne_self_eq_false,cond_false]
 refine (qS a (PE ke k_ (a.length+1) a a) (fun _ _ c=>c) (k_ true) ?_ ?_).trans (nsR _ _ _)
 ·intro n i h
  rw[YM]
  simp only[PF,oL h,nT h,oa h hl,Int.toNat_natCast,ng,nm,cond_true,cond_false,bne_self_eq_false,beq_self_eq_true,Bool.not_true,pA,pc]
 ·intro n
  rw[YM]
  simp only[PF,nN,cond_false]
def ng1 (k_:Bool→α) (a b:nv):α:=
 bif a.oG != b.oG then k_ false
 else bif a.nL != b.nL then k_ false
 else bif a.Count != b.Count then k_ false
 else bif Eb true (same a.oB b.oB) then
   bif !(pc a.oB b.oB) then k_ false
   else k_ true
  else ke
theorem nwW (k_:Bool→α) (a b:nv) (aJ:same a b=true):ng1 ke k_ a b=k_ (pc a b):=by
 obtain rfl:=rh aJ
 simp only[ng1,pA,pc,bne_self_eq_false,beq_self_eq_true,Bool.not_true,cond_false,cond_true,ng,nm]
theorem nt0 (k_:Bool→α) (a b:Rows) (pU:G1 (.sl [.i,.i,.i,.sl [.i]]) (.sl a)) (aJ:same a b=true):∃N,nc6 (fun r=>nv.nd r 0) ke k_ N a b=k_ (pc a b):=by
 exact nzA (fun r=>nv.nd r 0) ke k_ a b (oh pU).1 aJ
def ngU {α:Type} (k_:Bool→α) (a b:nP):α:=
 bif a.Kind != b.Kind then k_ false
 else bif a.ql != b.ql then k_ false
 else bif a.qK != b.qK then k_ false
 else bif a.oN != b.oN then k_ false
 else bif a.oM != b.oM then k_ false
 else k_ true
theorem nwP {α:Type} (k_:Bool→α) (a b:nP) (aJ:same a b=true):ngU k_ a b=k_ (pc a b):=by
 obtain rfl:=rh aJ
 simp only[ngU,pA,pc,bne_self_eq_false,beq_self_eq_true,Bool.not_true,cond_false,cond_true,ng,nm]
def ng9 (k_:Bool→α) (a b:qL):α:=
 bif a.State != b.State then k_ false
 else bif Eb true (same a.T8 b.T8) then
   bif !(pc a.T8 b.T8) then k_ false
   else bif a.Queue != b.Queue then k_ false
   else k_ true
  else ke
theorem nw6 (k_:Bool→α) (a b:qL) (aJ:same a b=true):ng9 ke k_ a b=k_ (pc a b):=by
 obtain rfl:=rh aJ
 simp only[ng9,pA,pc,bne_self_eq_false,beq_self_eq_true,Bool.not_true,cond_false,cond_true,ng,nm]
theorem nt9 (k_:Bool→α) (a b:Rows) (pU:G1 (.sl [.i,.i,.i,.i,.i,.i,.i]) (.sl a)) (aJ:same a b=true):∃N,nc6 (fun r=>qL.nd r 0) ke k_ N a b=k_ (pc a b):=by
 exact nzA (fun r=>qL.nd r 0) ke k_ a b (oh pU).1 aJ
def UY (k_:Bool→α) (a b:ni):α:=
 bif Eb true (same a.nF b.nF) then
  bif !(pc a.nF b.nF) then k_ false
  else k_ true
 else ke
theorem nih (k_:Bool→α) (a b:ni) (aJ:same a b=true):UY ke k_ a b=k_ (pc a b):=by
 obtain rfl:=rh aJ
 simp only[UY,pA,pc,bne_self_eq_false,beq_self_eq_true,Bool.not_true,cond_false,cond_true,ng,nm]
def nrN {α:Type} (k_:nY→α) (a:nY):α:=
 k_ a
theorem nrL {α:Type} (k_:nY→α) (a:nY):nrN k_ a=k_ (oE a):=by
 rfl
def nfv:List DC→List DC:=fun r=>nY.enc (oE (nY.nd r 0))
theorem nn5 (k_:Rows→α) (a:Rows) (pU:G1 (.sl [.i,.i,.i,.i,.bool,.bool]) (.sl a)) (aJ:sm a=true):∃N,naf 40 [.int 0,.int 0,.int 0,.int 0,.bool false,.bool false] nfv ke k_ N a=k_ (oE a):=by
 obtain⟨hl,hw⟩:=oh pU
 exact nzo 40 (by omega) [.int 0,.int 0,.int 0,.int 0,.bool false,.bool false] nfv ke k_ a hl aJ (fun r hr=>(sN rfl).trans (by exact nY.eta (hw r hr)))
def nbV {α:Type} (k_:Bool→α) (a b:nY):α:=
 bif a.Ub != b.Ub then k_ false
 else bif a.naj != b.naj then k_ false
 else bif a.Count != b.Count then k_ false
 else bif a.Time != b.Time then k_ false
 else bif !(a.ns3==b.ns3) then k_ false
 else bif !(a.nht==b.nht) then k_ false
 else k_ true
theorem nqF {α:Type} (k_:Bool→α) (a b:nY) (aJ:same a b=true):nbV k_ a b=k_ (pc a b):=by
 obtain rfl:=rh aJ
 simp only[nbV,pA,pc,bne_self_eq_false,beq_self_eq_true,Bool.not_true,cond_false,cond_true,ng,nm]
def YS {α:Type} (k_:Bool→α) (a b:nD):α:=
 bif a.Kind != b.Kind then k_ false
 else bif a.oN != b.oN then k_ false
 else bif a.oM != b.oM then k_ false
 else bif a.Seq != b.Seq then k_ false
 else bif a.Ack != b.Ack then k_ false
 else bif a.Flags != b.Flags then k_ false
 else bif a.tM != b.tM then k_ false
 else bif !(a.Body==b.Body) then k_ false
 else k_ true
theorem nmQ {α:Type} (k_:Bool→α) (a b:nD) (aJ:same a b=true):YS k_ a b=k_ (pc a b):=by
 obtain rfl:=rh aJ
 simp only[YS,pA,pc,bne_self_eq_false,beq_self_eq_true,Bool.not_true,cond_false,cond_true,ng,nm]
def nbP (k_:Bool→α) (a b:nx):α:=
 bif a.we != b.we then k_ false
 else bif a.wg != b.wg then k_ false
 else bif a.sQ != b.sQ then k_ false
 else bif a.Tos != b.Tos then k_ false
 else bif a.Id != b.Id then k_ false
 else bif a.Ttl != b.Ttl then k_ false
 else bif a.ql != b.ql then k_ false
 else bif a.qK != b.qK then k_ false
 else bif Eb true (same a.tU b.tU) then
   bif !(pc a.tU b.tU) then k_ false
   else k_ true
  else ke
theorem nqq (k_:Bool→α) (a b:nx) (aJ:same a b=true):nbP ke k_ a b=k_ (pc a b):=by
 obtain rfl:=rh aJ
 simp only[nbP,pA,pc,bne_self_eq_false,beq_self_eq_true,Bool.not_true,cond_false,cond_true,ng,nm]
def nlo {α:Type} (k_:ox→α) (a:ox):α:=
 k_ a
theorem nlm {α:Type} (k_:ox→α) (a:ox):nlo k_ a=k_ (oE a):=by
 rfl
def xO (k_:Bool→α) (a b:Rows) (oD:Int→α) (i:Int):α:=
 bif decide (i<len a) then
  bif Eb (Eb true (idx i a)) (idx i b) then
   bif !((rS (nth a (Int.toNat i)) 0)==(rS (nth b (Int.toNat i)) 0)) then k_ false
   else oD (nM (i+1))
  else ke
 else k_ true
def xN (k_:Bool→α) (N:Nat) (a b:Rows) (m_:Nat):Int→α:=
 Nat.rec (motive:=fun _=>Int→α) (fun _=>ke) (fun _ oD=>xO ke k_ a b oD) m_
theorem To (k_:Bool→α) (N:Nat) (a b:Rows) (m_:Nat):xN ke k_ N a b (m_+1)=xO ke k_ a b (xN ke k_ N a b m_):=rfl
def QG {α:Type} (ke:α) (k_:Bool→α) (l0:Int→α) (a b:Rows):α:=
 bif (len a) != (len b) then k_ false
 else l0 0
def YY (k_:Bool→α) (N:Nat) (a b:Rows):α:=QG ke k_ (xN ke k_ N a b N) a b
theorem nmV (k_:Bool→α) (a b:Rows) (pU:G1 (.sl [.str]) (.sl a)) (aJ:same a b=true):∃N,YY ke k_ N a b=k_ (pc a b):=by
 obtain rfl:=rh aJ
 obtain⟨hl,_⟩:=oh pU
 refine⟨a.length+1, ?_⟩
 unfold YY QG
 simp only[bne_self_eq_false,cond_false]
 refine (qS a (xN ke k_ (a.length+1) a a) (fun _ _ c=>c) (k_ true) ?_ ?_).trans (nsR _ _ _)
 ·intro n i h
  rw[To]
  simp only[xO,oL h,nT h,oa h hl,Int.toNat_natCast,ng,nm,cond_true,cond_false,bne_self_eq_false,beq_self_eq_true,Bool.not_true,pA,pc]
 ·intro n
  rw[To]
  simp only[xO,nN,cond_false]
def Yk {α:Type} (k_:nn→α) (a:nn):α:=
 k_ a
theorem Yi {α:Type} (k_:nn→α) (a:nn):Yk k_ a=k_ (oE a):=by
 rfl
def nbT (k_:Bool→α) (a b:om):α:=
 bif Eb true (same a.T8 b.T8) then
  bif !(pc a.T8 b.T8) then k_ false
  else bif a.Next != b.Next then k_ false
  else bif !(a.Data==b.Data) then k_ false
  else bif !(a.nB9==b.nB9) then k_ false
  else k_ true
 else ke
theorem nqC (k_:Bool→α) (a b:om) (aJ:same a b=true):nbT ke k_ a b=k_ (pc a b):=by
 obtain rfl:=rh aJ
 simp only[nbT,pA,pc,bne_self_eq_false,beq_self_eq_true,Bool.not_true,cond_false,cond_true,ng,nm]
def NK (k_:Bool→α) (a b:Rows) (oD:Int→α) (i:Int):α:=
 bif decide (i<len a) then
  bif Eb (Eb true (idx i a)) (idx i b) then
   bif !((rB (nth a (Int.toNat i)) 0)==(rB (nth b (Int.toNat i)) 0)) then k_ false
   else oD (nM (i+1))
  else ke
 else k_ true
def NJ (k_:Bool→α) (N:Nat) (a b:Rows) (m_:Nat):Int→α:=
 Nat.rec (motive:=fun _=>Int→α) (fun _=>ke) (fun _ oD=>NK ke k_ a b oD) m_
theorem WT (k_:Bool→α) (N:Nat) (a b:Rows) (m_:Nat):NJ ke k_ N a b (m_+1)=NK ke k_ a b (NJ ke k_ N a b m_):=rfl
def UW {α:Type} (ke:α) (k_:Bool→α) (l0:Int→α) (a b:Rows):α:=
 bif (len a) != (len b) then k_ false
 else l0 0
def ndH (k_:Bool→α) (N:Nat) (a b:Rows):α:=UW ke k_ (NJ ke k_ N a b N) a b
theorem ntX (k_:Bool→α) (a b:Rows) (pU:G1 (.sl [.bool]) (.sl a)) (aJ:same a b=true):∃N,ndH ke k_ N a b=k_ (pc a b):=by
 obtain rfl:=rh aJ
 obtain⟨hl,_⟩:=oh pU
 refine⟨a.length+1, ?_⟩
 unfold ndH UW
 simp only[bne_self_eq_false,cond_false]
 refine (qS a (NJ ke k_ (a.length+1) a a) (fun _ _ c=>c) (k_ true) ?_ ?_).trans (nsR _ _ _)
 ·intro n i h
  rw[WT]
  simp only[NK,oL h,nT h,oa h hl,Int.toNat_natCast,ng,nm,cond_true,cond_false,bne_self_eq_false,beq_self_eq_true,Bool.not_true,pA,pc]
 ·intro n
  rw[WT]
  simp only[NK,nN,cond_false]
def YO {α:Type} (k_:Bool→α) (a b:oR):α:=
 bif a.nAo != b.nAo then k_ false
 else bif a.nyF != b.nyF then k_ false
 else bif a.ns4 != b.ns4 then k_ false
 else bif !(a.ns6==b.ns6) then k_ false
 else k_ true
theorem nmK {α:Type} (k_:Bool→α) (a b:oR) (aJ:same a b=true):YO k_ a b=k_ (pc a b):=by
 obtain rfl:=rh aJ
 simp only[YO,pA,pc,bne_self_eq_false,beq_self_eq_true,Bool.not_true,cond_false,cond_true,ng,nm]
theorem nko (k_:Bool→α) (a b:Rows) (pU:G1 (.sl [.i,.i,.i,.bool]) (.sl a)) (aJ:same a b=true):∃N,nc6 (fun r=>oR.nd r 0) ke k_ N a b=k_ (pc a b):=by
 exact nzA (fun r=>oR.nd r 0) ke k_ a b (oh pU).1 aJ
def noD:List DC→List DC:=fun r=>qL.enc (oE (qL.nd r 0))
theorem nuN (k_:Rows→α) (a:Rows) (pU:G1 (.sl [.i,.i,.i,.i,.i,.i,.i]) (.sl a)) (aJ:sm a=true):∃N,naf 56 [.int 0,.int 0,.int 0,.int 0,.int 0,.int 0,.int 0] noD ke k_ N a=k_ (oE a):=by
 obtain⟨hl,hw⟩:=oh pU
 exact nzo 56 (by omega) [.int 0,.int 0,.int 0,.int 0,.int 0,.int 0,.int 0] noD ke k_ a hl aJ (fun r hr=>(sN rfl).trans (by exact qL.eta (hw r hr)))
def wY (k_:ni→α) (a:ni):α:=
 bif Eb true (sm a.nF) then
  k_ (⟨oE a.nF⟩:ni)
 else ke
def sP (a:ni):Bool:=wY false (fun _=>true) a
theorem niQ (k_:ni→α) (a:ni) (aJ:sP a=true):wY ke k_ a=k_ (oE a):=by
 exact q_ (fun _=>rfl) aJ
def nfu:List DC→List DC:=fun r=>[.str (rS r 0)]
theorem nn0 (k_:Rows→α) (a:Rows) (pU:G1 (.sl [.str]) (.sl a)) (aJ:sm a=true):∃N,naf 16 [.str []] nfu ke k_ N a=k_ (oE a):=by
 obtain⟨hl,hw⟩:=oh pU
 exact nzo 16 (by omega) [.str []] nfu ke k_ a hl aJ (fun r hr=>(sN rfl).trans (by exact ny8 (hw r hr)))
def NR (k_:na→α) (a:na):α:=
 bif Eb true (sm a.nE) then
  k_ (⟨oE a.nE⟩:na)
 else ke
def uj (a:na):Bool:=NR false (fun _=>true) a
theorem nrr (k_:na→α) (a:na) (aJ:uj a=true):NR ke k_ a=k_ (oE a):=by
 exact q_ (fun _=>rfl) aJ
def nnO {α:Type} (k_:oR→α) (a:oR):α:=
 k_ a
theorem nnM {α:Type} (k_:oR→α) (a:oR):nnO k_ a=k_ (oE a):=by
 rfl
def naX:List DC→List DC:=fun r=>oR.enc (oE (oR.nd r 0))
theorem nlp (k_:Rows→α) (a:Rows) (pU:G1 (.sl [.i,.i,.i,.bool]) (.sl a)) (aJ:sm a=true):∃N,naf 32 [.int 0,.int 0,.int 0,.bool false] naX ke k_ N a=k_ (oE a):=by
 obtain⟨hl,hw⟩:=oh pU
 exact nzo 32 (by omega) [.int 0,.int 0,.int 0,.bool false] naX ke k_ a hl aJ (fun r hr=>(sN rfl).trans (by exact oR.eta (hw r hr)))
def nxw {α:Type} (k_:nB→α) (a:nB):α:=
 k_ a
theorem nxv {α:Type} (k_:nB→α) (a:nB):nxw k_ a=k_ (oE a):=by
 rfl
def nv4:List DC→List DC:=fun r=>[.int (rI r 0)]
theorem nxr (k_:Rows→α) (a:Rows) (pU:G1 (.sl [.i]) (.sl a)) (aJ:sm a=true):∃N,naf 8 [.int 0] nv4 ke k_ N a=k_ (oE a):=by
 obtain⟨hl,hw⟩:=oh pU
 exact nzo 8 (by omega) [.int 0] nv4 ke k_ a hl aJ (fun r hr=>(sN rfl).trans (by exact nCh (hw r hr)))
def RJ (k_:nv→α) (a:nv):α:=
 bif Eb true (sm a.oB) then
  k_ (⟨a.oG,a.nL,a.Count,oE a.oB⟩:nv)
 else ke
def sK (a:nv):Bool:=RJ false (fun _=>true) a
theorem nxt (k_:nv→α) (a:nv) (aJ:sK a=true):RJ ke k_ a=k_ (oE a):=by
 exact q_ (fun _=>rfl) aJ
def RL (k_:oZ→α) (a:oZ):α:=
 bif Eb true (sm a.OP) then
  k_ (⟨a.yn,a.nF,oE a.OP⟩:oZ)
 else ke
def tC (a:oZ):Bool:=RL false (fun _=>true) a
theorem nxB (k_:oZ→α) (a:oZ) (aJ:tC a=true):RL ke k_ a=k_ (oE a):=by
 exact q_ (fun _=>rfl) aJ
def NV (k_:Rows→α) (a:Rows) (oD:Int→Rows→α) (i:Int) (nV:Rows):α:=
 bif decide (i<len a) then
  bif Eb (Eb (Eb (Eb true (idx i a)) (tC (oZ.nd (nth a (Int.toNat i)) 0))) (idx i nV)) ((inl (Int.toNat i) nV) && true) then
   oD (nM (i+1)) (List.set nV (Int.toNat i) (bQ (nth nV (Int.toNat i)) 0 (oZ.enc (oE (oZ.nd (nth a (Int.toNat i)) 0)))))
  else ke
 else k_ nV
def NU (k_:Rows→α) (N:Nat) (a:Rows) (m_:Nat):Int→Rows→α:=
 Nat.rec (motive:=fun _=>Int→Rows→α) (fun _ _=>ke) (fun _ oD=>NV ke k_ a oD) m_
theorem Xr (k_:Rows→α) (N:Nat) (a:Rows) (m_:Nat):NU ke k_ N a (m_+1)=NV ke k_ a (NU ke k_ N a m_):=rfl
def VG (k_:Rows→α) (l0:Int→Rows→α) (a:Rows):α:=
 bif Eb true (yB 40 (len a) (len a)) then
  l0 0 (List.replicate (Int.toNat (len a)) (([.int 0,.int 0,.sl []]):List DC))
 else ke
def ney (k_:Rows→α) (N:Nat) (a:Rows):α:=VG ke k_ (NU ke k_ N a N) a
def sW (a:Rows):Bool:=sm a && a.all fun r=>tC (oZ.nd r 0)
theorem nuK (k_:Rows→α) (a:Rows) (pU:G1 (.sl [.i,.i,.sl [.i]]) (.sl a)) (aJ:sW a=true):∃N,ney ke k_ N a=k_ (oE a):=by
 obtain⟨hl,hw⟩:=oh pU
 simp only[sW,Bool.and_eq_true,List.all_eq_true] at aJ
 obtain⟨Jb,hel⟩:=aJ
 refine⟨a.length+1, ?_⟩
 unfold ney VG
 have e0:Int.toNat (len a)=a.length:=by simp [len]
 simp only[ny4 Jb (show 40≤8388608 by omega),ng,cond_true,e0]
 refine nta a (NU ke k_ (a.length+1) a) k_ [.int 0,.int 0,.sl []] (fun o r=>bQ o 0 (oZ.enc (oE (oZ.nd r 0)))) ?_ ?_ ?_
 ·intro n i out h ho
  have he2:=hel (nth a i) (tI h)
  rw[Xr]
  simp only[NV,oL h,nT h,nyM ho h,sZ (show i<out.length by omega),oa h hl,Int.toNat_natCast,Bool.and_true,ng,nm,cond_true,he2]
  try rfl
 ·intro n out ho
  rw[Xr]
  simp only[NV,nN,cond_false]
 ·intro r hr
  refine (sN ?_).trans ?_
  ·rfl
  ·exact oZ.eta (hw r hr)
def za (k_:nh→α) (a:nh):α:=
 bif Eb true (sK a.nI) then
  bif Eb true (sW a.nr) then
   k_ (⟨oE a.Ring,oE a.nI,oE a.nr,a.Next⟩:nh)
  else ke
 else ke
def tG (a:nh):Bool:=za false (fun _=>true) a
theorem nn2 (k_:nh→α) (a:nh) (aJ:tG a=true):za ke k_ a=k_ (oE a):=by
 exact q_ (q_ (fun _=>rfl)) aJ
def nnW {α:Type} (k_:nD→α) (a:nD):α:=
 k_ a
theorem nnU {α:Type} (k_:nD→α) (a:nD):nnW k_ a=k_ (oE a):=by
 rfl
def nrw {α:Type} (k_:nx→α) (a:nx):α:=
 k_ (⟨a.we,a.wg,a.sQ,a.Tos,a.Id,a.Ttl,a.ql,a.qK,oE a.tU⟩:nx)
theorem nrv {α:Type} (k_:nx→α) (a:nx):nrw k_ a=k_ (oE a):=by
 rfl
def nuT {α:Type} (k_:pe→α) (a:pe):α:=
 k_ (⟨oE a.oI,a.nL,a.Count⟩:pe)
theorem nuR {α:Type} (k_:pe→α) (a:pe):nuT k_ a=k_ (oE a):=by
 rfl
def nnS {α:Type} (k_:nK→α) (a:nK):α:=
 k_ (⟨oE a.Ring,oE a.Device,oE a.Driver,oE a.rn,a.nfB,a.nfA⟩:nK)
theorem nnQ {α:Type} (k_:nK→α) (a:nK):nnS k_ a=k_ (oE a):=by
 rfl
def naY:List DC→List DC:=fun r=>nK.enc (oE (nK.nd r 0))
theorem nls (k_:Rows→α) (a:Rows) (pU:G1 (.sl [.i,.i,.i,.i,.i,.i,.i,.i,.i,.i,.i,.i,.i,.i,.i,.i,.i,.i,.i,.i,.i,.i,.i,.i,.i,.str,.i,.i,.bool,.i]) (.sl a)) (aJ:sm a=true):∃N,naf 248 [.int 0,.int 0,.int 0,.int 0,.int 0,.int 0,.int 0,.int 0,.int 0,.int 0,.int 0,.int 0,.int 0,.int 0,.int 0,.int 0,.int 0,.int 0,.int 0,.int 0,.int 0,.int 0,.int 0,.int 0,.int 0,.str [],.int 0,.int 0,.bool false,.int 0] naY ke k_ N a=k_ (oE a):=by
 obtain⟨hl,hw⟩:=oh pU
 exact nzo 248 (by omega) [.int 0,.int 0,.int 0,.int 0,.int 0,.int 0,.int 0,.int 0,.int 0,.int 0,.int 0,.int 0,.int 0,.int 0,.int 0,.int 0,.int 0,.int 0,.int 0,.int 0,.int 0,.int 0,.int 0,.int 0,.int 0,.str [],.int 0,.int 0,.bool false,.int 0] naY ke k_ a hl aJ (fun r hr=>(sN rfl).trans (by exact nK.eta (hw r hr)))
def NT (k_:Rows→α) (a:Rows) (oD:Int→Rows→α) (i:Int) (nV:Rows):α:=
 bif decide (i<len a) then
  bif Eb (Eb (Eb (Eb true (idx i a)) (sK (nv.nd (nth a (Int.toNat i)) 0))) (idx i nV)) ((inl (Int.toNat i) nV) && true) then
   oD (nM (i+1)) (List.set nV (Int.toNat i) (bQ (nth nV (Int.toNat i)) 0 (nv.enc (oE (nv.nd (nth a (Int.toNat i)) 0)))))
  else ke
 else k_ nV
def NS (k_:Rows→α) (N:Nat) (a:Rows) (m_:Nat):Int→Rows→α:=
 Nat.rec (motive:=fun _=>Int→Rows→α) (fun _ _=>ke) (fun _ oD=>NT ke k_ a oD) m_
theorem Xn (k_:Rows→α) (N:Nat) (a:Rows) (m_:Nat):NS ke k_ N a (m_+1)=NT ke k_ a (NS ke k_ N a m_):=rfl
def VD (k_:Rows→α) (l0:Int→Rows→α) (a:Rows):α:=
 bif Eb true (yB 48 (len a) (len a)) then
  l0 0 (List.replicate (Int.toNat (len a)) (([.int 0,.int 0,.int 0,.sl []]):List DC))
 else ke
def nep (k_:Rows→α) (N:Nat) (a:Rows):α:=VD ke k_ (NS ke k_ N a N) a
def tQ (a:Rows):Bool:=sm a && a.all fun r=>sK (nv.nd r 0)
theorem nuE (k_:Rows→α) (a:Rows) (pU:G1 (.sl [.i,.i,.i,.sl [.i]]) (.sl a)) (aJ:tQ a=true):∃N,nep ke k_ N a=k_ (oE a):=by
 obtain⟨hl,hw⟩:=oh pU
 simp only[tQ,Bool.and_eq_true,List.all_eq_true] at aJ
 obtain⟨Jb,hel⟩:=aJ
 refine⟨a.length+1, ?_⟩
 unfold nep VD
 have e0:Int.toNat (len a)=a.length:=by simp [len]
 simp only[ny4 Jb (show 48≤8388608 by omega),ng,cond_true,e0]
 refine nta a (NS ke k_ (a.length+1) a) k_ [.int 0,.int 0,.int 0,.sl []] (fun o r=>bQ o 0 (nv.enc (oE (nv.nd r 0)))) ?_ ?_ ?_
 ·intro n i out h ho
  have he2:=hel (nth a i) (tI h)
  rw[Xn]
  simp only[NT,oL h,nT h,nyM ho h,sZ (show i<out.length by omega),oa h hl,Int.toNat_natCast,Bool.and_true,ng,nm,cond_true,he2]
  try rfl
 ·intro n out ho
  rw[Xn]
  simp only[NT,nN,cond_false]
 ·intro r hr
  refine (sN ?_).trans ?_
  ·rfl
  ·exact nv.eta (hw r hr)
def noA:List DC→List DC:=fun r=>[.bool (rB r 0)]
theorem nuB (k_:Rows→α) (a:Rows) (pU:G1 (.sl [.bool]) (.sl a)) (aJ:sm a=true):∃N,naf 1 [.bool false] noA ke k_ N a=k_ (oE a):=by
 obtain⟨hl,hw⟩:=oh pU
 exact nzo 1 (by omega) [.bool false] noA ke k_ a hl aJ (fun r hr=>(sN rfl).trans (by exact nBZ (hw r hr)))
def NQ (k_:nC→α) (a:nC):α:=
 bif Eb true (sm a.pH) then
  k_ (⟨a.Mac,a.pS,oE a.pH⟩:nC)
 else ke
def ui (a:nC):Bool:=NQ false (fun _=>true) a
theorem nrn (k_:nC→α) (a:nC) (aJ:ui a=true):NQ ke k_ a=k_ (oE a):=by
 exact q_ (fun _=>rfl) aJ
def nxz {α:Type} (k_:pf→α) (a:pf):α:=
 k_ a
theorem nxx {α:Type} (k_:pf→α) (a:pf):nxz k_ a=k_ (oE a):=by
 rfl
def noC:List DC→List DC:=fun r=>pf.enc (oE (pf.nd r 0))
theorem nuH (k_:Rows→α) (a:Rows) (pU:G1 (.sl [.i,.i,.i,.i,.i,.i,.i,.i,.i]) (.sl a)) (aJ:sm a=true):∃N,naf 72 [.int 0,.int 0,.int 0,.int 0,.int 0,.int 0,.int 0,.int 0,.int 0] noC ke k_ N a=k_ (oE a):=by
 obtain⟨hl,hw⟩:=oh pU
 exact nzo 72 (by omega) [.int 0,.int 0,.int 0,.int 0,.int 0,.int 0,.int 0,.int 0,.int 0] noC ke k_ a hl aJ (fun r hr=>(sN rfl).trans (by exact pf.eta (hw r hr)))
def NW (k_:nG→α) (a:nG):α:=
 bif Eb true (sm a.Table) then
  k_ (⟨a.Key,oE a.Table⟩:nG)
 else ke
def uk (a:nG):Bool:=NW false (fun _=>true) a
theorem nrD (k_:nG→α) (a:nG) (aJ:uk a=true):NW ke k_ a=k_ (oE a):=by
 exact q_ (fun _=>rfl) aJ
def yc (k_:nk→α) (a:nk):α:=
 bif Eb true (sm a.oO) then
  bif Eb true (sP a.Table) then
   bif Eb true (uk a.oF) then
    k_ (⟨oE a.oO,oE a.Table,oE a.oF⟩:nk)
   else ke
  else ke
 else ke
def tf (a:nk):Bool:=yc false (fun _=>true) a
theorem nlw (k_:nk→α) (a:nk) (aJ:tf a=true):yc ke k_ a=k_ (oE a):=by
 exact q_ (q_ (q_ (fun _=>rfl))) aJ
def nrJ {α:Type} (k_:om→α) (a:om):α:=
 k_ (⟨oE a.T8,a.Next,a.Data,a.nB9⟩:om)
theorem nrH {α:Type} (k_:om→α) (a:om):nrJ k_ a=k_ (oE a):=by
 rfl
def nft:List DC→List DC:=fun r=>om.enc (oE (om.nd r 0))
theorem nnX (k_:Rows→α) (a:Rows) (pU:G1 (.sl [.i,.i,.i,.i,.i,.i,.str,.bool]) (.sl a)) (aJ:sm a=true):∃N,naf 72 [.int 0,.int 0,.int 0,.int 0,.int 0,.int 0,.str [],.bool false] nft ke k_ N a=k_ (oE a):=by
 obtain⟨hl,hw⟩:=oh pU
 exact nzo 72 (by omega) [.int 0,.int 0,.int 0,.int 0,.int 0,.int 0,.str [],.bool false] nft ke k_ a hl aJ (fun r hr=>(sN rfl).trans (by exact om.eta (hw r hr)))
def RI (k_:ny→α) (a:ny):α:=
 bif Eb true (uj a.ov) then
  bif Eb true (sm a.Maps) then
   bif Eb true (tG a.Tx) then
    bif Eb true (sm a.Rx) then
     bif Eb true (tQ a.ot) then
      bif Eb true (sm a.og) then
       bif Eb true (sm a.pd) then
        bif Eb true (ui a.Filter) then
         bif Eb true (tf a.nz) then
          bif Eb true (sm a.pG) then
           bif Eb true (sm a.wE) then
            bif Eb true (sm a.oX) then
             bif Eb true (sm a.pC) then
              k_ (⟨oE a.ov,oE a.Maps,oE a.Tx,oE a.Rx,oE a.ot,oE a.og,oE a.pd,oE a.Filter,oE a.nz,oE a.pG,a.sj,oE a.wE,oE a.oX,oE a.pC,oE a.Counters⟩:ny)
             else ke
            else ke
           else ke
          else ke
         else ke
        else ke
       else ke
      else ke
     else ke
    else ke
   else ke
  else ke
 else ke
def sJ (a:ny):Bool:=RI false (fun _=>true) a
theorem nxo (k_:ny→α) (a:ny) (aJ:sJ a=true):RI ke k_ a=k_ (oE a):=by
 exact q_ (q_ (q_ (q_ (q_ (q_ (q_ (q_ (q_ (q_ (q_ (q_ (q_ (fun _=>rfl))))))))))))) aJ
def ng7 (k_:Bool→α) (a b:oZ):α:=
 bif a.yn != b.yn then k_ false
 else bif a.nF != b.nF then k_ false
 else bif Eb true (same a.OP b.OP) then
   bif !(pc a.OP b.OP) then k_ false
   else k_ true
  else ke
theorem nw2 (k_:Bool→α) (a b:oZ) (aJ:same a b=true):ng7 ke k_ a b=k_ (pc a b):=by
 obtain rfl:=rh aJ
 simp only[ng7,pA,pc,bne_self_eq_false,beq_self_eq_true,Bool.not_true,cond_false,cond_true,ng,nm]
theorem nt6 (k_:Bool→α) (a b:Rows) (pU:G1 (.sl [.i,.i,.sl [.i]]) (.sl a)) (aJ:same a b=true):∃N,nc6 (fun r=>oZ.nd r 0) ke k_ N a b=k_ (pc a b):=by
 exact nzA (fun r=>oZ.nd r 0) ke k_ a b (oh pU).1 aJ
def ng5 {α:Type} (k_:Bool→α) (a b:pf):α:=
 bif a.Priority != b.Priority then k_ false
 else bif a.Kind != b.Kind then k_ false
 else bif a.ql != b.ql then k_ false
 else bif a.njF != b.njF then k_ false
 else bif a.Qx != b.Qx then k_ false
 else bif a.T_ != b.T_ then k_ false
 else bif a.sQ != b.sQ then k_ false
 else bif a.Action != b.Action then k_ false
 else bif a.Queue != b.Queue then k_ false
 else k_ true
theorem nwZ {α:Type} (k_:Bool→α) (a b:pf) (aJ:same a b=true):ng5 k_ a b=k_ (pc a b):=by
 obtain rfl:=rh aJ
 simp only[ng5,pA,pc,bne_self_eq_false,beq_self_eq_true,Bool.not_true,cond_false,cond_true,ng,nm]
theorem nt3 (k_:Bool→α) (a b:Rows) (pU:G1 (.sl [.i,.i,.i,.i,.i,.i,.i,.i,.i]) (.sl a)) (aJ:same a b=true):∃N,nc6 (fun r=>pf.nd r 0) ke k_ N a b=k_ (pc a b):=by
 exact nzA (fun r=>pf.nd r 0) ke k_ a b (oh pU).1 aJ
def nbR (k_:Bool→α) (a b:nG):α:=
 bif !(a.Key==b.Key) then k_ false
 else bif Eb true (same a.Table b.Table) then
   bif !(pc a.Table b.Table) then k_ false
   else k_ true
  else ke
theorem nqy (k_:Bool→α) (a b:nG) (aJ:same a b=true):nbR ke k_ a b=k_ (pc a b):=by
 obtain rfl:=rh aJ
 simp only[nbR,pA,pc,bne_self_eq_false,beq_self_eq_true,Bool.not_true,cond_false,cond_true,ng,nm]
def W3 (k_:Bool→α) (a b:nk):α:=
 bif Eb true (same a.oO b.oO) then
  bif !(pc a.oO b.oO) then k_ false
  else bif Eb true (same a.Table b.Table) then
    bif !(pc a.Table b.Table) then k_ false
    else bif Eb true (same a.oF b.oF) then
      bif !(pc a.oF b.oF) then k_ false
      else k_ true
     else ke
   else ke
 else ke
theorem nkv (k_:Bool→α) (a b:nk) (aJ:same a b=true):W3 ke k_ a b=k_ (pc a b):=by
 obtain rfl:=rh aJ
 simp only[W3,pA,pc,bne_self_eq_false,beq_self_eq_true,Bool.not_true,cond_false,cond_true,ng,nm]
def ng3 {α:Type} (k_:Bool→α) (a b:nB):α:=
 bif a.oG != b.oG then k_ false
 else bif a.nL != b.nL then k_ false
 else bif a.Head != b.Head then k_ false
 else bif a.qG != b.qG then k_ false
 else k_ true
theorem nwY {α:Type} (k_:Bool→α) (a b:nB) (aJ:same a b=true):ng3 k_ a b=k_ (pc a b):=by
 obtain rfl:=rh aJ
 simp only[ng3,pA,pc,bne_self_eq_false,beq_self_eq_true,Bool.not_true,cond_false,cond_true,ng,nm]
def zW {α:Type} (k_:Bool→α) (a b:nn):α:=
 bif a.oG != b.oG then k_ false
 else bif a.nL != b.nL then k_ false
 else bif a.Count != b.Count then k_ false
 else k_ true
theorem Yb {α:Type} (k_:Bool→α) (a b:nn) (aJ:same a b=true):zW k_ a b=k_ (pc a b):=by
 obtain rfl:=rh aJ
 simp only[zW,pA,pc,bne_self_eq_false,beq_self_eq_true,Bool.not_true,cond_false,cond_true,ng,nm]
def ndV (k_:Bool→α) (a b:pe):α:=
 bif Eb true (same a.oI b.oI) then
  bif !(pc a.oI b.oI) then k_ false
  else bif a.nL != b.nL then k_ false
  else bif a.Count != b.Count then k_ false
  else k_ true
 else ke
theorem nuc (k_:Bool→α) (a b:pe) (aJ:same a b=true):ndV ke k_ a b=k_ (pc a b):=by
 obtain rfl:=rh aJ
 simp only[ndV,pA,pc,bne_self_eq_false,beq_self_eq_true,Bool.not_true,cond_false,cond_true,ng,nm]
def YQ (k_:Bool→α) (a b:nK):α:=
 bif Eb true (same a.Ring b.Ring) then
  bif !(pc a.Ring b.Ring) then k_ false
  else bif Eb true (same a.Device b.Device) then
    bif !(pc a.Device b.Device) then k_ false
    else bif Eb true (same a.Driver b.Driver) then
      bif !(pc a.Driver b.Driver) then k_ false
      else bif Eb true (same a.rn b.rn) then
        bif !(pc a.rn b.rn) then k_ false
        else bif !(a.nfB==b.nfB) then k_ false
        else bif a.nfA != b.nfA then k_ false
        else k_ true
       else ke
     else ke
   else ke
 else ke
theorem nmN (k_:Bool→α) (a b:nK) (aJ:same a b=true):YQ ke k_ a b=k_ (pc a b):=by
 obtain rfl:=rh aJ
 simp only[YQ,pA,pc,bne_self_eq_false,beq_self_eq_true,Bool.not_true,cond_false,cond_true,ng,nm]
theorem nkr (k_:Bool→α) (a b:Rows) (pU:G1 (.sl [.i,.i,.i,.i,.i,.i,.i,.i,.i,.i,.i,.i,.i,.i,.i,.i,.i,.i,.i,.i,.i,.i,.i,.i,.i,.str,.i,.i,.bool,.i]) (.sl a)) (aJ:same a b=true):∃N,nc6 (fun r=>nK.nd r 0) ke k_ N a b=k_ (pc a b):=by
 exact nzA (fun r=>nK.nd r 0) ke k_ a b (oh pU).1 aJ
def Y1 (k_:Bool→α) (a b:nh):α:=
 bif Eb true (same a.Ring b.Ring) then
  bif !(pc a.Ring b.Ring) then k_ false
  else bif Eb true (same a.nI b.nI) then
    bif !(pc a.nI b.nI) then k_ false
    else bif Eb true (same a.nr b.nr) then
      bif !(pc a.nr b.nr) then k_ false
      else bif a.Next != b.Next then k_ false
      else k_ true
     else ke
   else ke
 else ke
theorem nmX (k_:Bool→α) (a b:nh) (aJ:same a b=true):Y1 ke k_ a b=k_ (pc a b):=by
 obtain rfl:=rh aJ
 simp only[Y1,pA,pc,bne_self_eq_false,beq_self_eq_true,Bool.not_true,cond_false,cond_true,ng,nm]
def nbN (k_:Bool→α) (a b:na):α:=
 bif Eb true (same a.nE b.nE) then
  bif !(pc a.nE b.nE) then k_ false
  else k_ true
 else ke
theorem nqm (k_:Bool→α) (a b:na) (aJ:same a b=true):nbN ke k_ a b=k_ (pc a b):=by
 obtain rfl:=rh aJ
 simp only[nbN,pA,pc,bne_self_eq_false,beq_self_eq_true,Bool.not_true,cond_false,cond_true,ng,nm]
theorem nmS (k_:Bool→α) (a b:Rows) (pU:G1 (.sl [.i,.i,.i,.i,.i,.i,.str,.bool]) (.sl a)) (aJ:same a b=true):∃N,nc6 (fun r=>om.nd r 0) ke k_ N a b=k_ (pc a b):=by
 exact nzA (fun r=>om.nd r 0) ke k_ a b (oh pU).1 aJ
theorem nm0 (k_:Bool→α) (a b:Rows) (pU:G1 (.sl [.i,.i,.i,.i,.bool,.bool]) (.sl a)) (aJ:same a b=true):∃N,nc6 (fun r=>nY.nd r 0) ke k_ N a b=k_ (pc a b):=by
 exact nzA (fun r=>nY.nd r 0) ke k_ a b (oh pU).1 aJ
def WV {α:Type} (k_:Bool→α) (a b:ox):α:=
 bif a.Frames != b.Frames then k_ false
 else bif a.Bad != b.Bad then k_ false
 else bif a.sk != b.sk then k_ false
 else bif a.t5 != b.t5 then k_ false
 else bif a.OV != b.OV then k_ false
 else k_ true
theorem nkm {α:Type} (k_:Bool→α) (a b:ox) (aJ:same a b=true):WV k_ a b=k_ (pc a b):=by
 obtain rfl:=rh aJ
 simp only[WV,pA,pc,bne_self_eq_false,beq_self_eq_true,Bool.not_true,cond_false,cond_true,ng,nm]
def nbL (k_:Bool→α) (a b:nC):α:=
 bif a.Mac != b.Mac then k_ false
 else bif !(a.pS==b.pS) then k_ false
 else bif Eb true (same a.pH b.pH) then
   bif !(pc a.pH b.pH) then k_ false
   else k_ true
  else ke
theorem nqi (k_:Bool→α) (a b:nC) (aJ:same a b=true):nbL ke k_ a b=k_ (pc a b):=by
 obtain rfl:=rh aJ
 simp only[nbL,pA,pc,bne_self_eq_false,beq_self_eq_true,Bool.not_true,cond_false,cond_true,ng,nm]
def ngW (k_:Bool→α) (a b:ny):α:=
 bif Eb true (same a.ov b.ov) then
  bif !(pc a.ov b.ov) then k_ false
  else bif Eb true (same a.Maps b.Maps) then
    bif !(pc a.Maps b.Maps) then k_ false
    else bif Eb true (same a.Tx b.Tx) then
      bif !(pc a.Tx b.Tx) then k_ false
      else bif Eb true (same a.Rx b.Rx) then
        bif !(pc a.Rx b.Rx) then k_ false
        else bif Eb true (same a.ot b.ot) then
          bif !(pc a.ot b.ot) then k_ false
          else bif Eb true (same a.og b.og) then
            bif !(pc a.og b.og) then k_ false
            else bif Eb true (same a.pd b.pd) then
              bif !(pc a.pd b.pd) then k_ false
              else bif Eb true (same a.Filter b.Filter) then
                bif !(pc a.Filter b.Filter) then k_ false
                else bif Eb true (same a.nz b.nz) then
                  bif !(pc a.nz b.nz) then k_ false
                  else bif Eb true (same a.pG b.pG) then
                    bif !(pc a.pG b.pG) then k_ false
                    else bif !(a.sj==b.sj) then k_ false
                    else bif Eb true (same a.wE b.wE) then
                      bif !(pc a.wE b.wE) then k_ false
                      else bif Eb true (same a.oX b.oX) then
                        bif !(pc a.oX b.oX) then k_ false
                        else bif Eb true (same a.pC b.pC) then
                          bif !(pc a.pC b.pC) then k_ false
                          else bif Eb true (same a.Counters b.Counters) then
                            bif !(pc a.Counters b.Counters) then k_ false
                            else k_ true
                           else ke
                         else ke
                       else ke
                     else ke
                   else ke
                 else ke
               else ke
             else ke
           else ke
         else ke
       else ke
     else ke
   else ke
 else ke
theorem nwR (k_:Bool→α) (a b:ny) (aJ:same a b=true):ngW ke k_ a b=k_ (pc a b):=by
 obtain rfl:=rh aJ
 simp only[ngW,pA,pc,bne_self_eq_false,beq_self_eq_true,Bool.not_true,cond_false,cond_true,ng,nm]
theorem PM {a:Rows} {left:Int} (uU:G1 (.sl [.str]) (.sl a)) (h1:0≤left) (h2:left≤1048576) (h0:0≤p9 a left):p9 a left≤1048576∧sm a=true:=by
 obtain⟨hl,hw⟩:=oh uU
 have h3:=nfr (P:=fun _=>True) (fun r hr l hl0 GG h=>⟨(nzn (OC (show G1 .str (.str (rS r 0)) by have:=hw r hr;rw[←ny8 this] at this;exact (nAO this).1)) hl0 GG h).1,trivial⟩) h1 h2 hl h0
 exact⟨h3.1,h3.2.1⟩
theorem QY {a:na} {left:Int} (uU:kc na.ct a.enc) (h1:0≤left) (h2:left≤1048576) (h0:0≤n_ a left):n_ a left≤1048576∧uj a=true:=by
 simp only[n_,SJ,id] at h0 ⊢
 by_cases c0:p9 a.nE left<0
 ·simp only[c0,decide_true,cond_true] at h0;omega
 simp only[c0,decide_false,cond_false] at h0 ⊢
 have k0:=PM (na.Qk uU) h1 h2 (Int.not_lt.1 c0)
 exact⟨k0.1,by simp only[uj,NR,k0.2,ng,nm,cond_true]⟩
theorem PI {a:nv} {left:Int} (uU:kc nv.ct a.enc) (h1:0≤left) (h2:left≤1048576) (h0:0≤qy a left):qy a left≤1048576∧sK a=true:=by
 simp only[qy,RG,id] at h0 ⊢
 by_cases c0:nZ a.oB left<0
 ·simp only[c0,decide_true,cond_true] at h0;omega
 simp only[c0,decide_false,cond_false] at h0 ⊢
 have k0:=rZ h1 h2 (oh (nv.nsV uU)).1 (Int.not_lt.1 c0)
 exact⟨k0.1,by simp only[sK,RJ,k0.2,ng,nm,cond_true]⟩
theorem nut {a:oZ} {left:Int} (uU:kc oZ.ct a.enc) (h1:0≤left) (h2:left≤1048576) (h0:0≤rl a left):rl a left≤1048576∧tC a=true:=by
 simp only[rl,RH,id] at h0 ⊢
 by_cases c0:nZ a.OP left<0
 ·simp only[c0,decide_true,cond_true] at h0;omega
 simp only[c0,decide_false,cond_false] at h0 ⊢
 have k0:=rZ h1 h2 (oh (oZ.nv6 uU)).1 (Int.not_lt.1 c0)
 exact⟨k0.1,by simp only[tC,RL,k0.2,ng,nm,cond_true]⟩
theorem SM {a:Rows} {left:Int} (uU:G1 (.sl [.i,.i,.sl [.i]]) (.sl a)) (h1:0≤left) (h2:left≤1048576) (h0:0≤sH a left):sH a left≤1048576∧sW a=true:=by
 obtain⟨hl,hw⟩:=oh uU
 have h3:=nfr (P:=fun r=>tC (oZ.nd r 0)=true) (fun r hr l hl0 GG h=>nut (by rw[oZ.eta (hw r hr)];exact hw r hr) hl0 GG h) h1 h2 hl h0
 exact⟨h3.1,by simp only[sW,Bool.and_eq_true,List.all_eq_true];exact h3.2⟩
theorem Xi {a:nh} {left:Int} (uU:kc nh.ct a.enc) (h1:0≤left) (h2:left≤1048576) (h0:0≤n8 a left):n8 a left≤1048576∧tG a=true:=by
 simp only[n8,wx,id] at h0 ⊢
 by_cases c0:qy a.nI left<0
 ·simp only[c0,decide_true,cond_true] at h0;omega
 simp only[c0,decide_false,cond_false] at h0 ⊢
 have k0:=PI (nh.nsY uU) h1 h2 (Int.not_lt.1 c0)
 by_cases c1:sH a.nr (qy a.nI left)<0
 ·simp only[c1,decide_true,cond_true] at h0;omega
 simp only[c1,decide_false,cond_false] at h0 ⊢
 have k1:=SM (nh.vR uU) (Int.not_lt.1 c0) k0.1 (Int.not_lt.1 c1)
 exact⟨k1.1,by simp only[tG,za,k0.2,k1.2,ng,nm,cond_true]⟩
theorem nlf {a:nD} {left:Int} (uU:kc nD.ct a.enc) (h1:0≤left) (h2:left≤1048576) (h0:0≤tB a left):tB a left≤1048576∧True:=by
 simp only[tB,Q_,id] at h0 ⊢
 by_cases c0:nM (left - (len a.Body))<0
 ·simp only[c0,decide_true,cond_true] at h0;omega
 simp only[c0,decide_false,cond_false] at h0 ⊢
 have k0:=nzn (OC (nD.nzp uU)) h1 h2 (Int.not_lt.1 c0)
 exact⟨k0.1,trivial⟩
theorem Zz {a:nx} {left:Int} (uU:kc nx.ct a.enc) (h1:0≤left) (h2:left≤1048576) (h0:0≤sf a left):sf a left≤1048576∧True:=by
 simp only[sf,SL,id] at h0 ⊢
 by_cases c0:tB a.tU left<0
 ·simp only[c0,decide_true,cond_true] at h0;omega
 simp only[c0,decide_false,cond_false] at h0 ⊢
 have k0:=nlf (nx.nCT uU) h1 h2 (Int.not_lt.1 c0)
 exact⟨k0.1,trivial⟩
theorem nrj {a:pe} {left:Int} (uU:kc pe.ct a.enc) (h1:0≤left) (h2:left≤1048576) (h0:0≤vu a left):vu a left≤1048576∧True:=by
 simp only[vu,Vz,id] at h0 ⊢
 by_cases c0:sf a.oI left<0
 ·simp only[c0,decide_true,cond_true] at h0;omega
 simp only[c0,decide_false,cond_false] at h0 ⊢
 have k0:=Zz (pe.nBo uU) h1 h2 (Int.not_lt.1 c0)
 exact⟨k0.1,trivial⟩
theorem nle {a:nK} {left:Int} (uU:kc nK.ct a.enc) (h1:0≤left) (h2:left≤1048576) (h0:0≤rJ a left):rJ a left≤1048576∧True:=by
 simp only[rJ,QZ,id] at h0 ⊢
 by_cases c0:vu a.rn left<0
 ·simp only[c0,decide_true,cond_true] at h0;omega
 simp only[c0,decide_false,cond_false] at h0 ⊢
 have k0:=nrj (nK.nCq uU) h1 h2 (Int.not_lt.1 c0)
 exact⟨k0.1,trivial⟩
theorem Vv {a:Rows} {left:Int} (uU:G1 (.sl [.i,.i,.i,.i,.i,.i,.i,.i,.i,.i,.i,.i,.i,.i,.i,.i,.i,.i,.i,.i,.i,.i,.i,.i,.i,.str,.i,.i,.bool,.i]) (.sl a)) (h1:0≤left) (h2:left≤1048576) (h0:0≤oA a left):oA a left≤1048576∧sm a=true:=by
 obtain⟨hl,hw⟩:=oh uU
 have h3:=nfr (P:=fun _=>True) (fun r hr l hl0 GG h=>⟨(nle (by rw[nK.eta (hw r hr)];exact hw r hr) hl0 GG h).1,trivial⟩) h1 h2 hl h0
 exact⟨h3.1,h3.2.1⟩
theorem ncb {a:Rows} {left:Int} (uU:G1 (.sl [.i,.i,.i,.sl [.i]]) (.sl a)) (h1:0≤left) (h2:left≤1048576) (h0:0≤pg a left):pg a left≤1048576∧tQ a=true:=by
 obtain⟨hl,hw⟩:=oh uU
 have h3:=nfr (P:=fun r=>sK (nv.nd r 0)=true) (fun r hr l hl0 GG h=>PI (by rw[nv.eta (hw r hr)];exact hw r hr) hl0 GG h) h1 h2 hl h0
 exact⟨h3.1,by simp only[tQ,Bool.and_eq_true,List.all_eq_true];exact h3.2⟩
theorem Zy {a:nC} {left:Int} (uU:kc nC.ct a.enc) (h1:0≤left) (h2:left≤1048576) (h0:0≤pJ a left):pJ a left≤1048576∧ui a=true:=by
 simp only[pJ,SI,id] at h0 ⊢
 by_cases c0:nZ a.pH left<0
 ·simp only[c0,decide_true,cond_true] at h0;omega
 simp only[c0,decide_false,cond_false] at h0 ⊢
 have k0:=rZ h1 h2 (oh (nC.nv_ uU)).1 (Int.not_lt.1 c0)
 exact⟨k0.1,by simp only[ui,NQ,k0.2,ng,nm,cond_true]⟩
theorem ngq {a:ni} {left:Int} (uU:kc ni.ct a.enc) (h1:0≤left) (h2:left≤1048576) (h0:0≤rW a left):rW a left≤1048576∧sP a=true:=by
 simp only[rW,Ow,id] at h0 ⊢
 by_cases c0:nZ a.nF left<0
 ·simp only[c0,decide_true,cond_true] at h0;omega
 simp only[c0,decide_false,cond_false] at h0 ⊢
 have k0:=rZ h1 h2 (oh (ni.Wo uU)).1 (Int.not_lt.1 c0)
 exact⟨k0.1,by simp only[sP,wY,k0.2,ng,nm,cond_true]⟩
theorem nnz {a:nG} {left:Int} (uU:kc nG.ct a.enc) (h1:0≤left) (h2:left≤1048576) (h0:0≤vJ a left):vJ a left≤1048576∧uk a=true:=by
 simp only[vJ,SN,id] at h0 ⊢
 by_cases c0:nM (left - (len a.Key))<0
 ·simp only[c0,decide_true,cond_true] at h0;omega
 simp only[c0,decide_false,cond_false] at h0 ⊢
 have k0:=nzn (OC (nG.nCS uU)) h1 h2 (Int.not_lt.1 c0)
 by_cases c1:nZ a.Table (nM (left - (len a.Key)))<0
 ·simp only[c1,decide_true,cond_true] at h0;omega
 simp only[c1,decide_false,cond_false] at h0 ⊢
 have k1:=rZ (Int.not_lt.1 c0) k0.1 (oh (nG.Wp uU)).1 (Int.not_lt.1 c1)
 exact⟨k1.1,by simp only[uk,NW,k0.2,k1.2,ng,nm,cond_true]⟩
theorem Vy {a:nk} {left:Int} (uU:kc nk.ct a.enc) (h1:0≤left) (h2:left≤1048576) (h0:0≤pD a left):pD a left≤1048576∧tf a=true:=by
 simp only[pD,PL,id] at h0 ⊢
 by_cases c0:nZ a.oO left<0
 ·simp only[c0,decide_true,cond_true] at h0;omega
 simp only[c0,decide_false,cond_false] at h0 ⊢
 have k0:=rZ h1 h2 (oh (nk.nv9 uU)).1 (Int.not_lt.1 c0)
 by_cases c1:rW a.Table (nZ a.oO left)<0
 ·simp only[c1,decide_true,cond_true] at h0;omega
 simp only[c1,decide_false,cond_false] at h0 ⊢
 have k1:=ngq (nk.Wp uU) (Int.not_lt.1 c0) k0.1 (Int.not_lt.1 c1)
 by_cases c2:vJ a.oF (rW a.Table (nZ a.oO left))<0
 ·simp only[c2,decide_true,cond_true] at h0;omega
 simp only[c2,decide_false,cond_false] at h0 ⊢
 have k2:=nnz (nk.nBp uU) (Int.not_lt.1 c1) k1.1 (Int.not_lt.1 c2)
 exact⟨k2.1,by simp only[tf,yc,k0.2,k1.2,k2.2,ng,nm,cond_true]⟩
theorem nnD {a:om} {left:Int} (uU:kc om.ct a.enc) (h1:0≤left) (h2:left≤1048576) (h0:0≤sg a left):sg a left≤1048576∧True:=by
 simp only[sg,SP,id] at h0 ⊢
 by_cases c0:nM (left - (len a.Data))<0
 ·simp only[c0,decide_true,cond_true] at h0;omega
 simp only[c0,decide_false,cond_false] at h0 ⊢
 have k0:=nzn (OC (om.nCn uU)) h1 h2 (Int.not_lt.1 c0)
 exact⟨k0.1,trivial⟩
theorem Xh {a:Rows} {left:Int} (uU:G1 (.sl [.i,.i,.i,.i,.i,.i,.str,.bool]) (.sl a)) (h1:0≤left) (h2:left≤1048576) (h0:0≤qz a left):qz a left≤1048576∧sm a=true:=by
 obtain⟨hl,hw⟩:=oh uU
 have h3:=nfr (P:=fun _=>True) (fun r hr l hl0 GG h=>⟨(nnD (by rw[om.eta (hw r hr)];exact hw r hr) hl0 GG h).1,trivial⟩) h1 h2 hl h0
 exact⟨h3.1,h3.2.1⟩
theorem nui {a:ny} {left:Int} (uU:kc ny.ct a.enc) (h1:0≤left) (h2:left≤1048576) (h0:0≤rX a left):rX a left≤1048576∧sJ a=true:=by
 simp only[rX,zY,id] at h0 ⊢
 by_cases c0:n_ a.ov left<0
 ·simp only[c0,decide_true,cond_true] at h0;omega
 simp only[c0,decide_false,cond_false] at h0 ⊢
 have k0:=QY (ny.noH uU) h1 h2 (Int.not_lt.1 c0)
 by_cases c1:nZ a.Maps (n_ a.ov left)<0
 ·simp only[c1,decide_true,cond_true] at h0;omega
 simp only[c1,decide_false,cond_false] at h0 ⊢
 have k1:=rZ (Int.not_lt.1 c0) k0.1 (oh (ny.nsX uU)).1 (Int.not_lt.1 c1)
 by_cases c2:n8 a.Tx (nZ a.Maps (n_ a.ov left))<0
 ·simp only[c2,decide_true,cond_true] at h0;omega
 simp only[c2,decide_false,cond_false] at h0 ⊢
 have k2:=Xi (ny.nA7 uU) (Int.not_lt.1 c1) k1.1 (Int.not_lt.1 c2)
 by_cases c3:oA a.Rx (n8 a.Tx (nZ a.Maps (n_ a.ov left)))<0
 ·simp only[c3,decide_true,cond_true] at h0;omega
 simp only[c3,decide_false,cond_false] at h0 ⊢
 have k3:=Vv (ny.nB8 uU) (Int.not_lt.1 c2) k2.1 (Int.not_lt.1 c3)
 by_cases c4:pg a.ot (oA a.Rx (n8 a.Tx (nZ a.Maps (n_ a.ov left))))<0
 ·simp only[c4,decide_true,cond_true] at h0;omega
 simp only[c4,decide_false,cond_false] at h0 ⊢
 have k4:=ncb (ny.nfx uU) (Int.not_lt.1 c3) k3.1 (Int.not_lt.1 c4)
 by_cases c5:nZ a.og (pg a.ot (oA a.Rx (n8 a.Tx (nZ a.Maps (n_ a.ov left)))))<0
 ·simp only[c5,decide_true,cond_true] at h0;omega
 simp only[c5,decide_false,cond_false] at h0 ⊢
 have k5:=rZ (Int.not_lt.1 c4) k4.1 (oh (ny.njC uU)).1 (Int.not_lt.1 c5)
 by_cases c6:nZ a.pd (nZ a.og (pg a.ot (oA a.Rx (n8 a.Tx (nZ a.Maps (n_ a.ov left))))))<0
 ·simp only[c6,decide_true,cond_true] at h0;omega
 simp only[c6,decide_false,cond_false] at h0 ⊢
 have k6:=rZ (Int.not_lt.1 c5) k5.1 (oh (ny.njz uU)).1 (Int.not_lt.1 c6)
 by_cases c7:pJ a.Filter (nZ a.pd (nZ a.og (pg a.ot (oA a.Rx (n8 a.Tx (nZ a.Maps (n_ a.ov left)))))))<0
 ·simp only[c7,decide_true,cond_true] at h0;omega
 simp only[c7,decide_false,cond_false] at h0 ⊢
 have k7:=Zy (ny.nyy uU) (Int.not_lt.1 c6) k6.1 (Int.not_lt.1 c7)
 by_cases c8:pD a.nz (pJ a.Filter (nZ a.pd (nZ a.og (pg a.ot (oA a.Rx (n8 a.Tx (nZ a.Maps (n_ a.ov left))))))))<0
 ·simp only[c8,decide_true,cond_true] at h0;omega
 simp only[c8,decide_false,cond_false] at h0 ⊢
 have k8:=Vy (ny.no5 uU) (Int.not_lt.1 c7) k7.1 (Int.not_lt.1 c8)
 by_cases c9:qz a.pG (pD a.nz (pJ a.Filter (nZ a.pd (nZ a.og (pg a.ot (oA a.Rx (n8 a.Tx (nZ a.Maps (n_ a.ov left)))))))))<0
 ·simp only[c9,decide_true,cond_true] at h0;omega
 simp only[c9,decide_false,cond_false] at h0 ⊢
 have k9:=Xh (ny.njB uU) (Int.not_lt.1 c8) k8.1 (Int.not_lt.1 c9)
 by_cases c10:p9 a.wE (qz a.pG (pD a.nz (pJ a.Filter (nZ a.pd (nZ a.og (pg a.ot (oA a.Rx (n8 a.Tx (nZ a.Maps (n_ a.ov left))))))))))<0
 ·simp only[c10,decide_true,cond_true] at h0;omega
 simp only[c10,decide_false,cond_false] at h0 ⊢
 have k10:=PM (ny.nzq uU) (Int.not_lt.1 c9) k9.1 (Int.not_lt.1 c10)
 by_cases c11:nZ a.oX (p9 a.wE (qz a.pG (pD a.nz (pJ a.Filter (nZ a.pd (nZ a.og (pg a.ot (oA a.Rx (n8 a.Tx (nZ a.Maps (n_ a.ov left)))))))))))<0
 ·simp only[c11,decide_true,cond_true] at h0;omega
 simp only[c11,decide_false,cond_false] at h0 ⊢
 have k11:=rZ (Int.not_lt.1 c10) k10.1 (oh (ny.na0 uU)).1 (Int.not_lt.1 c11)
 by_cases c12:nZ a.pC (nZ a.oX (p9 a.wE (qz a.pG (pD a.nz (pJ a.Filter (nZ a.pd (nZ a.og (pg a.ot (oA a.Rx (n8 a.Tx (nZ a.Maps (n_ a.ov left))))))))))))<0
 ·simp only[c12,decide_true,cond_true] at h0;omega
 simp only[c12,decide_false,cond_false] at h0 ⊢
 have k12:=rZ (Int.not_lt.1 c11) k11.1 (oh (ny.nfy uU)).1 (Int.not_lt.1 c12)
 exact⟨k12.1,by simp only[sJ,RI,k0.2,k1.2,k2.2,k3.2,k4.2,k5.2,k6.2,k7.2,k8.2,k9.2,k10.2,k11.2,k12.2,ng,nm,cond_true]⟩
def y7 (k_:Int→Rows→α) (oD:Int→Int→Rows→α) (qE i:Int) (zy:Rows):α:=
 bif decide (i<len zy) then
  bif Eb (Eb true (idx i zy)) (inl (Int.toNat i) zy) then
   oD (nM (qE+1)) (nM (i+1)) (List.set zy (Int.toNat i) (bQ (nth zy (Int.toNat i)) 0 [.int qE]))
  else ke
 else k_ qE zy
def y6 (k_:Int→Rows→α) (N m_:Nat):Int→Int→Rows→α:=
 Nat.rec (motive:=fun _=>Int→Int→Rows→α) (fun _ _ _=>ke) (fun _ oD=>y7 ke k_ oD) m_
theorem Ve (k_:Int→Rows→α) (N m_:Nat):y6 ke k_ N (m_+1)=y7 ke k_ (y6 ke k_ N m_):=rfl
def SG {α:Type} (ke:α) (k_:Int→Rows→α) (l0:Int→Int→Rows→α) (a:Rows) (k:Int):α:=
 l0 k 0 a
def nb4 (k_:Int→Rows→α) (N:Nat) (a:Rows) (k:Int):α:=SG ke k_ (y6 ke k_ N N) a k
def rk (k:Int):List DC:=[.int k]
def rv (a:Rows) (k:Int):Int×Rows:=(k+1*a.length,uT rk 1 a.length k)
theorem nqU (k_:Int→Rows→α) (a:Rows) (k:Int) (pU:G1 (.sl [.i]) (.sl a)) (aJ:OM 1 a k=true):∃N,nb4 ke k_ N a k=k_ (rv a k).1 (rv a k).2:=by
 obtain⟨hl,hw⟩:=oh pU
 obtain⟨h1,h2,h3⟩:=VJ aJ
 refine⟨a.length+1, ?_⟩
 unfold nb4 SG rv
 refine nfH a k 1 rk (y6 ke k_ (a.length+1)) k_ ?_ ?_
 ·intro n i b h hb hn
  rw[Ve]
  have w1:nM (k+1*(i:Int)+1)=k+1*(i:Int)+1:=nQ (by omega) (by omega)
  have hs:bQ (nth a i) 0 (rk (k+1*(i:Int)))=rk (k+1*(i:Int)):=sN (by rw[Oc (hw (nth a i) (tI h))];rfl)
  simp only[y7,oL (show i<b.length by omega),nT (show i<b.length by omega),sZ (show i<b.length by omega),oa h hl,Int.toNat_natCast,ng,nm,cond_true,hn,w1]
  rw[←hs];rfl
 ·intro n b hb
  rw[Ve]
  simp only[y7,←hb,nN,cond_false]
def y5 (k_:Int→α) (a:Rows) (oD:Int→Int→α) (qE i:Int):α:=
 bif decide (i<len a) then
  bif Eb true (idx i a) then
   bif (rI (nth a (Int.toNat i)) 0) != qE then k_ (-1)
   else oD (nM (qE+1)) (nM (i+1))
  else ke
 else k_ qE
def y4 (k_:Int→α) (N:Nat) (a:Rows) (m_:Nat):Int→Int→α:=
 Nat.rec (motive:=fun _=>Int→Int→α) (fun _ _=>ke) (fun _ oD=>y5 ke k_ a oD) m_
theorem U3 (k_:Int→α) (N:Nat) (a:Rows) (m_:Nat):y4 ke k_ N a (m_+1)=y5 ke k_ a (y4 ke k_ N a m_):=rfl
def SF {α:Type} (ke:α) (k_:Int→α) (l0:Int→Int→α) (a:Rows) (k:Int):α:=
 l0 k 0
def nbZ (k_:Int→α) (N:Nat) (a:Rows) (k:Int):α:=SF ke k_ (y4 ke k_ N a N) a k
def qX (a:Rows) (k:Int):Int:=k+1*a.length
theorem nqL (k_:Int→α) (a:Rows) (k:Int) (pU:G1 (.sl [.i]) (.sl a)) (aJ:Qm rk 1 a k=true):∃N,nbZ ke k_ N a k=k_ (qX a k):=by
 obtain⟨hl,hw⟩:=oh pU
 obtain⟨h0,h1,h2,h3⟩:=nyL aJ
 refine⟨a.length+1, ?_⟩
 unfold nbZ SF qX
 refine nfE a k 1 rk (y4 ke k_ (a.length+1) a) k_ h0 ?_ ?_
 ·intro n i h hn
  rw[U3]
  have w1:nM (k+1*(i:Int)+1)=k+1*(i:Int)+1:=nQ (by omega) (by omega)
  simp only[y5,oL h,nT h,oa h hl,Int.toNat_natCast,ng,nm,cond_true,hn,w1,nBY,bne_self_eq_false,rk,cond_false]
 ·intro n
  rw[U3]
  simp only[y5,nN,cond_false]
def xW (k_:Int→Rows→α) (oD:Int→Int→Rows→α) (qE i:Int) (zy:Rows):α:=
 bif decide (i<len zy) then
  bif Eb (Eb true (idx i zy)) (inl (Int.toNat i) zy) then
   oD (nM (qE+1)) (nM (i+1)) (List.set zy (Int.toNat i) (bQ (nth zy (Int.toNat i)) 0 [.bool ((Int.tmod qE 3)==0)]))
  else ke
 else k_ qE zy
def xV (k_:Int→Rows→α) (N m_:Nat):Int→Int→Rows→α:=
 Nat.rec (motive:=fun _=>Int→Int→Rows→α) (fun _ _ _=>ke) (fun _ oD=>xW ke k_ oD) m_
theorem TA (k_:Int→Rows→α) (N m_:Nat):xV ke k_ N (m_+1)=xW ke k_ (xV ke k_ N m_):=rfl
def QR {α:Type} (ke:α) (k_:Int→Rows→α) (l0:Int→Int→Rows→α) (a:Rows) (k:Int):α:=
 l0 k 0 a
def Zl (k_:Int→Rows→α) (N:Nat) (a:Rows) (k:Int):α:=QR ke k_ (xV ke k_ N N) a k
def O4 (k:Int):List DC:=[.bool (Int.tmod k 3==0)]
def Rf (a:Rows) (k:Int):Int×Rows:=(k+1*a.length,uT O4 1 a.length k)
theorem nnf (k_:Int→Rows→α) (a:Rows) (k:Int) (pU:G1 (.sl [.bool]) (.sl a)) (aJ:OM 1 a k=true):∃N,Zl ke k_ N a k=k_ (Rf a k).1 (Rf a k).2:=by
 obtain⟨hl,hw⟩:=oh pU
 obtain⟨h1,h2,h3⟩:=VJ aJ
 refine⟨a.length+1, ?_⟩
 unfold Zl QR Rf
 refine nfH a k 1 O4 (xV ke k_ (a.length+1)) k_ ?_ ?_
 ·intro n i b h hb hn
  rw[TA]
  have w1:nM (k+1*(i:Int)+1)=k+1*(i:Int)+1:=nQ (by omega) (by omega)
  have hs:bQ (nth a i) 0 (O4 (k+1*(i:Int)))=O4 (k+1*(i:Int)):=sN (by rw[Oc (hw (nth a i) (tI h))];rfl)
  simp only[xW,oL (show i<b.length by omega),nT (show i<b.length by omega),sZ (show i<b.length by omega),oa h hl,Int.toNat_natCast,ng,nm,cond_true,hn,w1]
  rw[←hs];rfl
 ·intro n b hb
  rw[TA]
  simp only[xW,←hb,nN,cond_false]
def xQ (k_:Int→α) (a:Rows) (oD:Int→Int→α) (qE i:Int):α:=
 bif decide (i<len a) then
  bif Eb true (idx i a) then
   bif !((rB (nth a (Int.toNat i)) 0)==((Int.tmod qE 3)==0)) then k_ (-1)
   else oD (nM (qE+1)) (nM (i+1))
  else ke
 else k_ qE
def xP (k_:Int→α) (N:Nat) (a:Rows) (m_:Nat):Int→Int→α:=
 Nat.rec (motive:=fun _=>Int→Int→α) (fun _ _=>ke) (fun _ oD=>xQ ke k_ a oD) m_
theorem Tp (k_:Int→α) (N:Nat) (a:Rows) (m_:Nat):xP ke k_ N a (m_+1)=xQ ke k_ a (xP ke k_ N a m_):=rfl
def QJ {α:Type} (ke:α) (k_:Int→α) (l0:Int→Int→α) (a:Rows) (k:Int):α:=
 l0 k 0
def Y7 (k_:Int→α) (N:Nat) (a:Rows) (k:Int):α:=QJ ke k_ (xP ke k_ N a N) a k
def TY (a:Rows) (k:Int):Int:=k+1*a.length
theorem nm3 (k_:Int→α) (a:Rows) (k:Int) (pU:G1 (.sl [.bool]) (.sl a)) (aJ:Qm O4 1 a k=true):∃N,Y7 ke k_ N a k=k_ (TY a k):=by
 obtain⟨hl,hw⟩:=oh pU
 obtain⟨h0,h1,h2,h3⟩:=nyL aJ
 refine⟨a.length+1, ?_⟩
 unfold Y7 QJ TY
 refine nfE a k 1 O4 (xP ke k_ (a.length+1) a) k_ h0 ?_ ?_
 ·intro n i h hn
  rw[Tp]
  have w1:nM (k+1*(i:Int)+1)=k+1*(i:Int)+1:=nQ (by omega) (by omega)
  simp only[xQ,oL h,nT h,oa h hl,Int.toNat_natCast,ng,nm,cond_true,hn,w1,nCQ,beq_self_eq_true,Bool.not_true,O4,cond_false]
 ·intro n
  rw[Tp]
  simp only[xQ,nN,cond_false]
def wu (k_:Bytes→α) (oD:Int→Bytes→α) (qE:Int) (nV:Bytes):α:=
 bif decide (0<qE) then
  bif Eb true (ou (toStr ([[.int (IntKind.wrap .u8 (nM (48+(Int.tmod qE 10))))]])) nV) then
   oD (nM (Int.tdiv qE 10)) ((toStr ([[.int (IntKind.wrap .u8 (nM (48+(Int.tmod qE 10))))]]))++nV)
  else ke
 else bif Eb true (ou [109] nV) then
   k_ ([109]++nV)
  else ke
def y8 (k_:Bytes→α) (N m_:Nat):Int→Bytes→α:=
 Nat.rec (motive:=fun _=>Int→Bytes→α) (fun _ _=>ke) (fun _ oD=>wu ke k_ oD) m_
theorem Vo (k_:Bytes→α) (N m_:Nat):y8 ke k_ N (m_+1)=wu ke k_ (y8 ke k_ N m_):=rfl
def SH {α:Type} (ke:α) (k_:Bytes→α) (l0:Int→Bytes→α) (k:Int):α:=
 bif decide (k≤0) then k_ [109,48]
 else l0 k []
def nb8 (k_:Bytes→α) (N:Nat) (k:Int):α:=SH ke k_ (y8 ke k_ N N) k
def mtD (k:Int):Bytes:=toStr ([[.int (IntKind.wrap .u8 (nM (48+(Int.tmod k 10))))]])
def mtl:Nat→Int→Bytes→Bytes
 | 0,_,o=>o
 | n+1,k,o=>bif decide (0<k) then mtl n (nM (Int.tdiv k 10)) (mtD k++o) else o
def R5 (k:Int):Bytes:=bif decide (k≤0) then [109,48] else [109]++mtl 25 k []
theorem nqZ (k_:Bytes→α) (k:Int) (h_k:G1 .i (.int k)):∃N,nb8 ke k_ N k=k_ (R5 k):=by
 have h63:=xG h_k
 refine⟨26, ?_⟩
 have key:∀(n:Nat) (k:Int) (o:Bytes),0≤k→k≤9223372036854775807→k<10 ^ n→o.length+n≤100→
   y8 ke k_ 26 (n+1) k o=k_ ([109]++mtl n k o):=by
  intro n
  induction n with
  | zero=>
   intro k o h0 h1 h2 h3
   have:k=0:=by simp only[Int.pow_zero] at h2;omega
   subst this
   rw[Vo]
   have c1:ou [109] o=true:=by simp only[ou,List.length_cons,List.length_nil,decide_eq_true_eq];omega
   simp only[wu,c1,ng,cond_true,mtl]
   rfl
  | succ n ih=>
   intro k o h0 h1 h2 h3
   rw[Vo]
   have c1:ou [109] o=true:=by simp only[ou,List.length_cons,List.length_nil,decide_eq_true_eq];omega
   by_cases hk:0<k
   ·have l1:(mtD k).length=1:=rfl
    have c2:ou (mtD k) o=true:=by simp only[ou,l1,decide_eq_true_eq];omega
    have e1:Int.tdiv k 10=k / 10:=Int.tdiv_eq_ediv_of_nonneg h0
    have e2:nM (Int.tdiv k 10)=k / 10:=by rw[e1];exact nQ (by omega) (by omega)
    have:=ih (k / 10) (mtD k++o) (by omega) (by omega) (by rw[Int.pow_succ] at h2;omega) (by rw[List.length_append,l1];omega)
    have hd:decide (0<k)=true:=decide_eq_true hk
    unfold wu mtl
    rw[hd,e2]
    show (bif Eb true (ou (mtD k) o) then _ else ke)=_
    rw[c2]
    exact this
   ·have hd:decide (0<k)=false:=decide_eq_false hk
    simp only[wu,hd,c1,ng,cond_true,cond_false,mtl]
 unfold nb8 SH R5
 by_cases h:k≤0
 ·simp only[decide_eq_true h,cond_true]
 ·simp only[decide_eq_false h,cond_false]
  exact key 25 k [] (by omega) (by omega) (by omega) (by simp)
def v_ (k_:Int→Rows→α) (oD:Int→Int→Rows→α) (qE i:Int) (zy:Rows):α:=
 bif decide (i<len zy) then
  bif Eb (Eb true (idx i zy)) (inl (Int.toNat i) zy) then
   oD (nM (qE+1)) (nM (i+1)) (List.set zy (Int.toNat i) (bQ (nth zy (Int.toNat i)) 0 [.str (R5 qE)]))
  else ke
 else k_ qE zy
def v9 (k_:Int→Rows→α) (N m_:Nat):Int→Int→Rows→α:=
 Nat.rec (motive:=fun _=>Int→Int→Rows→α) (fun _ _ _=>ke) (fun _ oD=>v_ ke k_ oD) m_
theorem Qr (k_:Int→Rows→α) (N m_:Nat):v9 ke k_ N (m_+1)=v_ ke k_ (v9 ke k_ N m_):=rfl
def Ou {α:Type} (ke:α) (k_:Int→Rows→α) (l0:Int→Int→Rows→α) (a:Rows) (k:Int):α:=
 l0 k 0 a
def Vl (k_:Int→Rows→α) (N:Nat) (a:Rows) (k:Int):α:=Ou ke k_ (v9 ke k_ N N) a k
def rU (k:Int):List DC:=[.str (R5 k)]
def ue (a:Rows) (k:Int):Int×Rows:=(k+1*a.length,uT rU 1 a.length k)
theorem niB (k_:Int→Rows→α) (a:Rows) (k:Int) (pU:G1 (.sl [.str]) (.sl a)) (aJ:OM 1 a k=true):∃N,Vl ke k_ N a k=k_ (ue a k).1 (ue a k).2:=by
 obtain⟨hl,hw⟩:=oh pU
 obtain⟨h1,h2,h3⟩:=VJ aJ
 refine⟨a.length+1, ?_⟩
 unfold Vl Ou ue
 refine nfH a k 1 rU (v9 ke k_ (a.length+1)) k_ ?_ ?_
 ·intro n i b h hb hn
  rw[Qr]
  have w1:nM (k+1*(i:Int)+1)=k+1*(i:Int)+1:=nQ (by omega) (by omega)
  have hs:bQ (nth a i) 0 (rU (k+1*(i:Int)))=rU (k+1*(i:Int)):=sN (by rw[Oc (hw (nth a i) (tI h))];rfl)
  simp only[v_,oL (show i<b.length by omega),nT (show i<b.length by omega),sZ (show i<b.length by omega),oa h hl,Int.toNat_natCast,ng,nm,cond_true,hn,w1]
  rw[←hs];rfl
 ·intro n b hb
  rw[Qr]
  simp only[v_,←hb,nN,cond_false]
def v8 (k_:Int→α) (a:Rows) (oD:Int→Int→α) (qE i:Int):α:=
 bif decide (i<len a) then
  bif Eb true (idx i a) then
   bif !((rS (nth a (Int.toNat i)) 0)==(R5 qE)) then k_ (-1)
   else oD (nM (qE+1)) (nM (i+1))
  else ke
 else k_ qE
def v7 (k_:Int→α) (N:Nat) (a:Rows) (m_:Nat):Int→Int→α:=
 Nat.rec (motive:=fun _=>Int→Int→α) (fun _ _=>ke) (fun _ oD=>v8 ke k_ a oD) m_
theorem Qq (k_:Int→α) (N:Nat) (a:Rows) (m_:Nat):v7 ke k_ N a (m_+1)=v8 ke k_ a (v7 ke k_ N a m_):=rfl
def Oo {α:Type} (ke:α) (k_:Int→α) (l0:Int→Int→α) (a:Rows) (k:Int):α:=
 l0 k 0
def U_ (k_:Int→α) (N:Nat) (a:Rows) (k:Int):α:=Oo ke k_ (v7 ke k_ N a N) a k
def ub (a:Rows) (k:Int):Int:=k+1*a.length
theorem niq (k_:Int→α) (a:Rows) (k:Int) (pU:G1 (.sl [.str]) (.sl a)) (aJ:Qm rU 1 a k=true):∃N,U_ ke k_ N a k=k_ (ub a k):=by
 obtain⟨hl,hw⟩:=oh pU
 obtain⟨h0,h1,h2,h3⟩:=nyL aJ
 refine⟨a.length+1, ?_⟩
 unfold U_ Oo ub
 refine nfE a k 1 rU (v7 ke k_ (a.length+1) a) k_ h0 ?_ ?_
 ·intro n i h hn
  rw[Qq]
  have w1:nM (k+1*(i:Int)+1)=k+1*(i:Int)+1:=nQ (by omega) (by omega)
  simp only[v8,oL h,nT h,oa h hl,Int.toNat_natCast,ng,nm,cond_true,hn,w1,nAJ,beq_self_eq_true,Bool.not_true,rU,cond_false]
 ·intro n
  rw[Qq]
  simp only[v8,nN,cond_false]
inductive FK where
 | i
 | b
 | s
def FK.v:FK→Int→DC
 | .i,k=> .int k
 | .b,k=> .bool (Int.tmod k 3==0)
 | .s,k=> .str (R5 k)
def FK.ne:FK→List DC→Nat→Int→Bool
 | .i,r,w,k=>rI r w != k
 | .b,r,w,k=> !(rB r w==(Int.tmod k 3==0))
 | .s,r,w,k=> !(rS r w==R5 k)
def fkF (ks:List FK):Int→List DC:=
 List.rec (motive:=fun _=>Int→List DC) (fun _=>[]) (fun f _ ih k=>f.v k::ih (k+1)) ks
theorem nBk (p:List DC) (x y:DC) (r:List DC) {w:Nat} (h:p.length=w):bQ (p++x::r) w [y]=p++y::r:=by
 subst h
 simp [bQ]
theorem nyI (p:List DC) (x d:DC) (r:List DC) {w:Nat} (h:p.length=w):(p++x::r).getD w d=x:=by
 subst h
 simp
theorem nz0 {A:Rows} {i:Nat} (hi:i<A.length):A.set i (nth A i)=A:=by
 have e:nth A i=A[i]:=by simp [nth,hi]
 rw[e,List.set_getElem_self]
def mkG (i:Int) (fin:Int→Rows→α) (ks:List FK):Nat→Int→Rows→α:=
 List.rec (motive:=fun _=>Nat→Int→Rows→α) (fun _ k A=>fin k A) (fun f _ ih w k A=>bif Eb (Eb true (idx i A)) (inl (Int.toNat i) A) then ih (w+1) (nM (k+1)) (List.set A (Int.toNat i) (bQ (nth A (Int.toNat i)) w [f.v k])) else ke) ks
theorem nCf (i:Nat) (fin:Int→Rows→α):∀(ks:List FK) (w:Nat) (K:Int) (A:Rows) (p r:List DC),i<A.length→nth A i=p++r→p.length=w→r.length=ks.length→0≤K→K+ks.length≤9223372036854775807→
  mkG ke (i:Int) fin ks w K A=fin (K+ks.length) (A.set i (p++fkF ks K)):=by
 intro ks
 induction ks with
 | nil=>
  intro w K A p r hi hn hp hr h0 h1
  have hr:r=[]:=List.length_eq_zero_iff.1 hr
  subst hr
  show fin K A=fin (K+((0:Nat):Int)) (A.set i (p++[]))
  rw[←hn,nz0 hi]
  simp
 | cons f fs ih=>
  intro w K A p r hi hn hp hr h0 h1
  cases r with
  | nil=>cases hr
  | cons x r=>
   have hf:((f::fs).length:Int)=(fs.length:Int)+1:=by simp
   rw[hf] at h1 ⊢
   show (bif Eb (Eb true (idx (i:Int) A)) (inl (Int.toNat (i:Int)) A) then mkG ke (i:Int) fin fs (w+1) (nM (K+1)) (List.set A (Int.toNat (i:Int)) (bQ (nth A (Int.toNat (i:Int))) w [f.v K])) else ke)=_
   simp only[Int.toNat_natCast,nT hi,sZ hi,ng,cond_true]
   rw[show nM (K+1)=K+1 from nQ (by omega) (by omega),hn,nBk p x (f.v K) r hp]
   refine (ih (w+1) (K+1) _ (p++[f.v K]) r (by rw[List.length_set];exact hi) (by rw[nuW hi,List.append_assoc];rfl) (by simp [hp]) (by simpa using hr) (by omega) (by omega)).trans ?_
   rw[List.set_set,show K+1+(fs.length:Int)=K+((fs.length:Int)+1) by omega,List.append_assoc]
   rfl
def mkL (ks:List FK) {α:Type} (ke:α) (k_:Int→Rows→α) (oD:Int→Int→Rows→α) (k i:Int) (a:Rows):α:=
 bif decide (i<len a) then mkG ke i (fun k A=>oD k (nM (i+1)) A) ks 0 k a else k_ k a
def nxJ (ks:List FK) {α:Type} (ke:α) (k_:Int→Rows→α) (N m_:Nat):Int→Int→Rows→α:=
 Nat.rec (motive:=fun _=>Int→Int→Rows→α) (fun _ _ _=>ke) (fun _ oD=>mkL ks ke k_ oD) m_
def mkT {α:Type} (ke:α) (k_:Int→Rows→α) (l0:Int→Int→Rows→α) (a:Rows) (k:Int):α:=l0 k 0 a
def nn8 (ks:List FK) {α:Type} (ke:α) (k_:Int→Rows→α) (N:Nat) (a:Rows) (k:Int):α:=mkT ke k_ (nxJ ks ke k_ N N) a k
theorem nuV {c:Int} (h0:0≤c) (h1:c≤1000) {i:Nat} (hi:i≤16777216):0≤c*(i:Int)∧c*(i:Int)≤16777216000:=by
 refine⟨Int.mul_nonneg h0 (by omega), ?_⟩
 have:=Int.mul_le_mul h1 (show (i:Int)≤16777216 by omega) (by omega) (by omega)
 omega
theorem nBg {α:Type} (ks:List FK) (c:Int) (hc:(ks.length:Int)=c) (JE:c≤1000) (ke:α) (k_:Int→Rows→α) (a:Rows) (k:Int) (hl:a.length≤9223372036854775807) (hr:∀r∈a,r.length=ks.length) (aJ:OM c a k=true):
  ∃N,nn8 ks ke k_ N a k=k_ (k+c*a.length) (uT (fkF ks) c a.length k):=by
 obtain⟨h1,h2,h3⟩:=VJ aJ
 refine⟨a.length+1, ?_⟩
 refine nfH a k c (fkF ks) (nxJ ks ke k_ (a.length+1)) k_ ?_ ?_
 ·intro n i b h hb hn
  show mkL ks ke k_ (nxJ ks ke k_ (a.length+1) n) (k+c*i) (i:Int) b=_
  have mh:i<b.length:=by omega
  have hw:=hr _ (tI h)
  have hm:=nuV (c:=c) (by omega) JE (show i≤16777216 by omega)
  unfold mkL
  rw[oL mh,cond_true]
  refine (nCf ke i _ ks 0 (k+c*i) b [] (nth a i) mh hn rfl hw (by omega) (by omega)).trans ?_
  rw[oa h hl,hc]
  rfl
 ·intro n b hb
  show mkL ks ke k_ (nxJ ks ke k_ (a.length+1) n) (k+c*a.length) (a.length:Int) b=_
  unfold mkL
  rw[←hb,nN,cond_false]
def hlG {α:Type} (ke no:α) (a:Rows) (i:Int) (fin:Int→α) (ks:List FK):Nat→Int→α:=
 List.rec (motive:=fun _=>Nat→Int→α) (fun _ k=>fin k) (fun f _ ih w k=>bif Eb true (idx i a) then bif f.ne (nth a (Int.toNat i)) w k then no else ih (w+1) (nM (k+1)) else ke) ks
theorem nCd {α:Type} (ke no:α) (a:Rows) (i:Nat) (hi:i<a.length) (fin:Int→α):∀(ks:List FK) (w:Nat) (K:Int) (p:List DC),nth a i=p++fkF ks K→p.length=w→0≤K→K+ks.length≤9223372036854775807→
  hlG ke no a (i:Int) fin ks w K=fin (K+ks.length):=by
 intro ks
 induction ks with
 | nil=>
  intro w K p hn hp h0 h1
  show fin K=fin (K+((0:Nat):Int))
  simp
 | cons f fs ih=>
  intro w K p hn hp h0 h1
  have hf:((f::fs).length:Int)=(fs.length:Int)+1:=by simp
  rw[hf] at h1 ⊢
  have hn:nth a i=p++f.v K::fkF fs (K+1):=hn
  show (bif Eb true (idx (i:Int) a) then bif f.ne (nth a (Int.toNat (i:Int))) w K then no else hlG ke no a (i:Int) fin fs (w+1) (nM (K+1)) else ke)=_
  have he:f.ne (nth a i) w K=false:=by
   rw[hn]
   cases f
   ·simp only[FK.ne,rI,nyI p _ _ _ hp,FK.v,DC.asInt,bne_self_eq_false]
   ·simp only[FK.ne,rB,nyI p _ _ _ hp,FK.v,DC.asBool,beq_self_eq_true,Bool.not_true]
   ·simp only[FK.ne,rS,nyI p _ _ _ hp,FK.v,DC.Gq,beq_self_eq_true,Bool.not_true]
  simp only[Int.toNat_natCast,nT hi,ng,cond_true,cond_false,he]
  rw[show nM (K+1)=K+1 from nQ (by omega) (by omega)]
  refine (ih (w+1) (K+1) (p++[f.v K]) (by rw[hn,List.append_assoc];rfl) (by simp [hp]) (by omega) (by omega)).trans ?_
  rw[show K+1+(fs.length:Int)=K+((fs.length:Int)+1) by omega]
def hlL (ks:List FK) {α:Type} (ke:α) (k_:Int→α) (a:Rows) (oD:Int→Int→α) (k i:Int):α:=
 bif decide (i<len a) then hlG ke (k_ (-1)) a i (fun k=>oD k (nM (i+1))) ks 0 k else k_ k
def nwd (ks:List FK) {α:Type} (ke:α) (k_:Int→α) (N:Nat) (a:Rows) (m_:Nat):Int→Int→α:=
 Nat.rec (motive:=fun _=>Int→Int→α) (fun _ _=>ke) (fun _ oD=>hlL ks ke k_ a oD) m_
def hlT {α:Type} (ke:α) (k_:Int→α) (l0:Int→Int→α) (a:Rows) (k:Int):α:=l0 k 0
def nmj (ks:List FK) {α:Type} (ke:α) (k_:Int→α) (N:Nat) (a:Rows) (k:Int):α:=hlT ke k_ (nwd ks ke k_ N a N) a k
theorem nBc {α:Type} (ks:List FK) (c:Int) (hc:(ks.length:Int)=c) (JE:c≤1000) (ke:α) (k_:Int→α) (a:Rows) (k:Int) (hl:a.length≤9223372036854775807) (aJ:Qm (fkF ks) c a k=true):
  ∃N,nmj ks ke k_ N a k=k_ (k+c*a.length):=by
 obtain⟨h0,h1,h2,h3⟩:=nyL aJ
 refine⟨a.length+1, ?_⟩
 refine nfE a k c (fkF ks) (nwd ks ke k_ (a.length+1) a) k_ h0 ?_ ?_
 ·intro n i h hn
  show hlL ks ke k_ a (nwd ks ke k_ (a.length+1) a n) (k+c*i) (i:Int)=_
  have hm:=nuV (c:=c) (by omega) JE (show i≤16777216 by omega)
  unfold hlL
  rw[oL h,cond_true]
  refine (nCd ke _ a i h _ ks 0 (k+c*i) [] hn rfl (by omega) (by omega)).trans ?_
  rw[oa h hl,hc]
 ·intro n
  show hlL ks ke k_ a (nwd ks ke k_ (a.length+1) a n) (k+c*a.length) (a.length:Int)=_
  unfold hlL
  rw[nN,cond_false]
def x8 (k_:Int→Rows→α) (oD:Int→Int→Rows→α) (qE i:Int) (zy:Rows):α:=
 let z0:Rows:=List.set zy (Int.toNat i) (bQ (nth zy (Int.toNat i)) 0 [.int qE])
 let z1:Rows:=List.set z0 (Int.toNat i) (bQ (nth z0 (Int.toNat i)) 1 [.int (nM (qE+1))])
 let z2:List DC:=nth z1 (Int.toNat i)
 let z3:Rows:=rR z2 2
 let z4:Int:=nM ((nM (qE+1))+1)
 let z5:Int×Rows:=rv z3 z4
 bif decide (i<len zy) then
  bif Eb (Eb true (idx i zy)) (inl (Int.toNat i) zy) then
   bif Eb (Eb true (idx i z0)) (inl (Int.toNat i) z0) then
    bif Eb (Eb (Eb true (idx i z1)) (inl (Int.toNat i) z1)) (OM 1 z3 z4) then
     oD z5.1 (nM (i+1)) (List.set z1 (Int.toNat i) (bQ z2 2 [.sl z5.2]))
    else ke
   else ke
  else ke
 else k_ qE zy
def xZ (k_:Int→Rows→α) (N m_:Nat):Int→Int→Rows→α:=
 Nat.rec (motive:=fun _=>Int→Int→Rows→α) (fun _ _ _=>ke) (fun _ oD=>x8 ke k_ oD) m_
theorem TH (k_:Int→Rows→α) (N m_:Nat):xZ ke k_ N (m_+1)=x8 ke k_ (xZ ke k_ N m_):=rfl
def QW {α:Type} (ke:α) (k_:Int→Rows→α) (l0:Int→Int→Rows→α) (a:Rows) (k:Int):α:=
 l0 k 0 a
def Zv (k_:Int→Rows→α) (N:Nat) (a:Rows) (k:Int):α:=QW ke k_ (xZ ke k_ N N) a k
def rH (r:List DC) (k:Int):List DC×Int:=([.int (k),.int (k+1),.sl (uT rk 1 (rR r 2).length (k+1+1))],k+1+1+1*(rR r 2).length)
def Si (r:List DC) (k:Int):Bool:=OM 1 (rR r 2) (k+1+1)
def zg (a:Rows) (k:Int):Int×Rows:=((R6 rH a k).2,(R6 rH a k).1)
theorem nnn (k_:Int→Rows→α) (a:Rows) (k:Int) (pU:G1 (.sl [.i,.i,.sl [.i]]) (.sl a)) (aJ:yd rH Si a k=true):∃N,Zv ke k_ N a k=k_ (zg a k).1 (zg a k).2:=by
 obtain⟨hl,hw⟩:=oh pU
 refine⟨a.length+1, ?_⟩
 unfold Zv QW zg
 refine nzU a k rH Si (xZ ke k_ (a.length+1)) k_ aJ ?_ ?_
 ·intro n i k b h hb hn hg
  rw[TH]
  have hr:=Oc (hw (nth a i) (tI h))
  have hk: -1*3≤k:=by have:=(VJ hg).2.1;omega
  rw[←hn] at hg hr ⊢
  have mh:i<b.length:=by omega
  generalize MD:nth b i=r at*
  match r,hr with
  | [a0,a1,a2],_=>
   have H2:OM 1 (DC.cT a2) (k+1+1)=true:=hg
   obtain⟨g1,g2,g3⟩:=VJ H2
   have rr:∀x0 x1 x2:DC,rR [x0,x1,x2] 2=DC.cT x2:=fun _ _ _=>rfl
   have s0:∀x0 x1 x2 v:DC,bQ [x0,x1,x2] 0 [v]=[v,x1,x2]:=fun _ _ _ _=>rfl
   have s1:∀x0 x1 x2 v:DC,bQ [x0,x1,x2] 1 [v]=[x0,v,x2]:=fun _ _ _ _=>rfl
   have s2:∀x0 x1 x2 v:DC,bQ [x0,x1,x2] 2 [v]=[x0,x1,v]:=fun _ _ _ _=>rfl
   have w0:nM (k+1)=k+1:=nQ (by omega) (by omega)
   have w1:nM (k+1+1)=k+1+1:=nQ (by omega) (by omega)
   simp only[x8,oL mh,nT mh,sZ mh,oa h hl,Int.toNat_natCast,ng,nm,cond_true,MD,w0,w1,nzF,nzS,List.set_set,nuW mh,s0,s1,s2,rr,rv,H2,rH]
 ·intro n k b hb
  rw[TH]
  simp only[x8,←hb,nN,cond_false]
def w4 (a:Rows):Bool:=sm a && a.all (fun r=>sm (rR r 2))
theorem nrP {a:Rows} (h:w4 a=true) {k:Int} (h0:0≤k) (h1:k≤600000000000000):yd rH Si a k=true∧k≤(zg a k).1∧(zg a k).1≤k+281475110928384:=by
 simp only[w4,Bool.and_eq_true,List.all_eq_true] at h
 have hl:=sd h.1
 obtain⟨h2,h3,h4⟩:=nn9 (f:=rH) (g:=Si) (B:=1125899906842000) (C:=16777224) (by omega) a k (fun r hr k k0 k1=>by
  have hs:=sd (h.2 r hr)
  refine⟨yE (h.2 r hr) (by omega) (by omega), ?_, ?_⟩
  ·show k≤k+1+1+1*((rR r 2).length:Int)
   omega
  ·show k+1+1+1*((rR r 2).length:Int)≤k+16777224
   omega) h0 (by omega)
 exact⟨h2,h3,by show (R6 rH a k).2≤_;omega⟩
def xU (k_:Int→α) (a:Rows) (oD:Int→Int→α) (qE i:Int):α:=
 let z0:Int:=nM ((nM (qE+1))+1)
 let z1:Int:=qX (rR (nth a (Int.toNat i)) 2) z0
 bif decide (i<len a) then
  bif Eb true (idx i a) then
   bif (rI (nth a (Int.toNat i)) 0) != qE then k_ (-1)
   else bif Eb true (idx i a) then
     bif (rI (nth a (Int.toNat i)) 1) != (nM (qE+1)) then k_ (-1)
     else bif Eb (Eb true (idx i a)) (Qm rk 1 (rR (nth a (Int.toNat i)) 2) z0) then
       bif decide (z1<0) then k_ (-1)
       else oD z1 (nM (i+1))
      else ke
    else ke
  else ke
 else k_ qE
def xT (k_:Int→α) (N:Nat) (a:Rows) (m_:Nat):Int→Int→α:=
 Nat.rec (motive:=fun _=>Int→Int→α) (fun _ _=>ke) (fun _ oD=>xU ke k_ a oD) m_
theorem Ty (k_:Int→α) (N:Nat) (a:Rows) (m_:Nat):xT ke k_ N a (m_+1)=xU ke k_ a (xT ke k_ N a m_):=rfl
def QO {α:Type} (ke:α) (k_:Int→α) (l0:Int→Int→α) (a:Rows) (k:Int):α:=
 l0 k 0
def Zg (k_:Int→α) (N:Nat) (a:Rows) (k:Int):α:=QO ke k_ (xT ke k_ N a N) a k
def nfG (a:Rows) (k:Int):Bool:=same a (R6 rH a k).1 && yd rH Si a k
def Yx (a:Rows) (k:Int):Int:=(R6 rH a k).2
theorem nna (k_:Int→α) (a:Rows) (k:Int) (pU:G1 (.sl [.i,.i,.sl [.i]]) (.sl a)) (aJ:nfG a k=true):∃N,Zg ke k_ N a k=k_ (Yx a k):=by
 obtain⟨hl,hw⟩:=oh pU
 simp only[nfG,Bool.and_eq_true] at aJ
 refine⟨a.length+1, ?_⟩
 unfold Zg QO Yx
 refine nzD a k rH Si (xT ke k_ (a.length+1) a) k_ aJ.2 (rh aJ.1) ?_ ?_
 ·intro n i k h hn hg
  rw[Ty]
  have H2:OM 1 (rR (nth a i) 2) (k+1+1)=true:=hg
  obtain⟨g1,g2,g3⟩:=VJ H2
  have e:rR (nth a i) 2=uT rk 1 (rR (nth a i) 2).length (k+1+1):=congrArg (fun r=>rR r 2) hn
  have hh:Qm rk 1 (rR (nth a i) 2) (k+1+1)=true:=by
   simp only[Qm,Bool.and_eq_true]
   exact⟨by rw[←e];exact pA _,H2⟩
  have r0:rI (nth a i) 0=k:=congrArg (fun r=>rI r 0) hn
  have r1:rI (nth a i) 1=k+1:=congrArg (fun r=>rI r 1) hn
  have w0:nM (k+1)=k+1:=nQ (by omega) (by omega)
  have w1:nM (k+1+1)=k+1+1:=nQ (by omega) (by omega)
  have hz:¬k+1+1+1*((rR (nth a i) 2).length:Int)<0:=by omega
  simp only[xU,oL h,nT h,oa h hl,Int.toNat_natCast,ng,nm,cond_true,hh,qX,hz,w0,w1,r0,r1,bne_self_eq_false,beq_self_eq_true,Bool.not_true,decide_false,cond_false,rH]
 ·intro n k
  rw[Ty]
  simp only[xU,nN,cond_false]
theorem nBV {a:Rows} (h:w4 a=true) {k:Int} (h0:0≤k) (h1:k≤600000000000000):yd rH Si a k=true∧nfG (R6 rH a k).1 k=true∧(R6 rH (R6 rH a k).1 k).2=(R6 rH a k).2∧k≤(R6 rH a k).2∧(R6 rH a k).2≤k+281475110928384:=by
 obtain⟨h2,h3,h4⟩:=nrP h h0 h1
 have hl:∀r k,(rR (rH r k).1 2).length=(rR r 2).length:=fun r k=>pL rk 1 _ _
 have hf:∀r k,rH (rH r k).1 k=rH r k:=by
  intro r k
  have e:=hl r k
  unfold rH at e ⊢
  simp only[e]
 have hg:∀r k,Si (rH r k).1 k=Si r k:=by
  intro r k
  simp only[Si,OM,sm,hl]
 obtain⟨t1,t2⟩:=nn_ hf hg a k
 refine⟨h2, ?_,by rw[t1],h3,h4⟩
 simp only[nfG,t1,t2,h2,pA,Bool.and_self]
def VL:List FK:=[.i,.i,.i,.i,.b,.b]
def O6:Int→List DC:=fkF VL
def OL (a:Rows) (k:Int):Int×Rows:=(k+6*a.length,uT O6 6 a.length k)
theorem niH (k_:Int→Rows→α) (a:Rows) (k:Int) (pU:G1 (.sl [.i,.i,.i,.i,.bool,.bool]) (.sl a)) (aJ:OM 6 a k=true):∃N,nn8 VL ke k_ N a k=k_ (OL a k).1 (OL a k).2:=by
 obtain⟨hl,hw⟩:=oh pU
 exact nBg VL 6 (by rfl) (by decide) ke k_ a k hl (fun r hr=>Oc (hw r hr)) aJ
def RU (a:Rows) (k:Int):Int:=k+6*a.length
theorem niw (k_:Int→α) (a:Rows) (k:Int) (pU:G1 (.sl [.i,.i,.i,.i,.bool,.bool]) (.sl a)) (aJ:Qm O6 6 a k=true):∃N,nmj VL ke k_ N a k=k_ (RU a k):=by
 exact nBc VL 6 (by rfl) (by decide) ke k_ a k (oh pU).1 aJ
def ni0:List FK:=[.i,.i,.i,.i,.i,.i,.i,.i,.i]
def nap:Int→List DC:=fkF ni0
def OJ (a:Rows) (k:Int):Int×Rows:=(k+9*a.length,uT nap 9 a.length k)
theorem nnl (k_:Int→Rows→α) (a:Rows) (k:Int) (pU:G1 (.sl [.i,.i,.i,.i,.i,.i,.i,.i,.i]) (.sl a)) (aJ:OM 9 a k=true):∃N,nn8 ni0 ke k_ N a k=k_ (OJ a k).1 (OJ a k).2:=by
 obtain⟨hl,hw⟩:=oh pU
 exact nBg ni0 9 (by rfl) (by decide) ke k_ a k hl (fun r hr=>Oc (hw r hr)) aJ
def QA (a:Rows) (k:Int):Int:=k+9*a.length
theorem nm9 (k_:Int→α) (a:Rows) (k:Int) (pU:G1 (.sl [.i,.i,.i,.i,.i,.i,.i,.i,.i]) (.sl a)) (aJ:Qm nap 9 a k=true):∃N,nmj ni0 ke k_ N a k=k_ (QA a k):=by
 exact nBc ni0 9 (by rfl) (by decide) ke k_ a k (oh pU).1 aJ
def ni1:List FK:=[.i,.i,.i,.i,.i,.i,.i]
def naq:Int→List DC:=fkF ni1
def Rg (a:Rows) (k:Int):Int×Rows:=(k+7*a.length,uT naq 7 a.length k)
theorem nnq (k_:Int→Rows→α) (a:Rows) (k:Int) (pU:G1 (.sl [.i,.i,.i,.i,.i,.i,.i]) (.sl a)) (aJ:OM 7 a k=true):∃N,nn8 ni1 ke k_ N a k=k_ (Rg a k).1 (Rg a k).2:=by
 obtain⟨hl,hw⟩:=oh pU
 exact nBg ni1 7 (by rfl) (by decide) ke k_ a k hl (fun r hr=>Oc (hw r hr)) aJ
def TZ (a:Rows) (k:Int):Int:=k+7*a.length
theorem nnd (k_:Int→α) (a:Rows) (k:Int) (pU:G1 (.sl [.i,.i,.i,.i,.i,.i,.i]) (.sl a)) (aJ:Qm naq 7 a k=true):∃N,nmj ni1 ke k_ N a k=k_ (TZ a k):=by
 exact nBc ni1 7 (by rfl) (by decide) ke k_ a k (oh pU).1 aJ
def Ri:List FK:=[.i,.i,.i,.b]
def yL:Int→List DC:=fkF Ri
def zd (a:Rows) (k:Int):Int×Rows:=(k+4*a.length,uT yL 4 a.length k)
theorem nge (k_:Int→Rows→α) (a:Rows) (k:Int) (pU:G1 (.sl [.i,.i,.i,.bool]) (.sl a)) (aJ:OM 4 a k=true):∃N,nn8 Ri ke k_ N a k=k_ (zd a k).1 (zd a k).2:=by
 obtain⟨hl,hw⟩:=oh pU
 exact nBg Ri 4 (by rfl) (by decide) ke k_ a k hl (fun r hr=>Oc (hw r hr)) aJ
def O9 (a:Rows) (k:Int):Int:=k+4*a.length
theorem nf3 (k_:Int→α) (a:Rows) (k:Int) (pU:G1 (.sl [.i,.i,.i,.bool]) (.sl a)) (aJ:Qm yL 4 a k=true):∃N,nmj Ri ke k_ N a k=k_ (O9 a k):=by
 exact nBc Ri 4 (by rfl) (by decide) ke k_ a k (oh pU).1 aJ
def VK:List FK:=[.i,.i,.i,.i,.i,.i,.s,.b]
def O5:Int→List DC:=fkF VK
def OK (a:Rows) (k:Int):Int×Rows:=(k+8*a.length,uT O5 8 a.length k)
theorem niy (k_:Int→Rows→α) (a:Rows) (k:Int) (pU:G1 (.sl [.i,.i,.i,.i,.i,.i,.str,.bool]) (.sl a)) (aJ:OM 8 a k=true):∃N,nn8 VK ke k_ N a k=k_ (OK a k).1 (OK a k).2:=by
 obtain⟨hl,hw⟩:=oh pU
 exact nBg VK 8 (by rfl) (by decide) ke k_ a k hl (fun r hr=>Oc (hw r hr)) aJ
def RS (a:Rows) (k:Int):Int:=k+8*a.length
theorem nin (k_:Int→α) (a:Rows) (k:Int) (pU:G1 (.sl [.i,.i,.i,.i,.i,.i,.str,.bool]) (.sl a)) (aJ:Qm O5 8 a k=true):∃N,nmj VK ke k_ N a k=k_ (RS a k):=by
 exact nBc VK 8 (by rfl) (by decide) ke k_ a k (oh pU).1 aJ
def Rj:List FK:=[.i,.i,.i,.i,.i,.i,.i,.i,.i,.i,.i,.i,.i,.i,.i,.i,.i,.i,.i,.i,.i,.i,.i,.i,.i,.s,.i,.i,.b,.i]
def yM:Int→List DC:=fkF Rj
def zf (a:Rows) (k:Int):Int×Rows:=(k+30*a.length,uT yM 30 a.length k)
theorem ngg (k_:Int→Rows→α) (a:Rows) (k:Int) (pU:G1 (.sl [.i,.i,.i,.i,.i,.i,.i,.i,.i,.i,.i,.i,.i,.i,.i,.i,.i,.i,.i,.i,.i,.i,.i,.i,.i,.str,.i,.i,.bool,.i]) (.sl a)) (aJ:OM 30 a k=true):∃N,nn8 Rj ke k_ N a k=k_ (zf a k).1 (zf a k).2:=by
 obtain⟨hl,hw⟩:=oh pU
 exact nBg Rj 30 (by rfl) (by decide) ke k_ a k hl (fun r hr=>Oc (hw r hr)) aJ
def O_ (a:Rows) (k:Int):Int:=k+30*a.length
theorem nf5 (k_:Int→α) (a:Rows) (k:Int) (pU:G1 (.sl [.i,.i,.i,.i,.i,.i,.i,.i,.i,.i,.i,.i,.i,.i,.i,.i,.i,.i,.i,.i,.i,.i,.i,.i,.i,.str,.i,.i,.bool,.i]) (.sl a)) (aJ:Qm yM 30 a k=true):∃N,nmj Rj ke k_ N a k=k_ (O_ a k):=by
 exact nBc Rj 30 (by rfl) (by decide) ke k_ a k (oh pU).1 aJ
def xY (k_:Int→Rows→α) (oD:Int→Int→Rows→α) (qE i:Int) (zy:Rows):α:=
 let z0:Rows:=List.set zy (Int.toNat i) (bQ (nth zy (Int.toNat i)) 0 [.int qE])
 let z1:Rows:=List.set z0 (Int.toNat i) (bQ (nth z0 (Int.toNat i)) 1 [.int (nM (qE+1))])
 let z2:Int:=nM ((nM (qE+1))+1)
 let z3:Rows:=List.set z1 (Int.toNat i) (bQ (nth z1 (Int.toNat i)) 2 [.int z2])
 let z4:List DC:=nth z3 (Int.toNat i)
 let z5:Rows:=rR z4 3
 let z6:Int:=nM (z2+1)
 let z7:Int×Rows:=rv z5 z6
 bif decide (i<len zy) then
  bif Eb (Eb true (idx i zy)) (inl (Int.toNat i) zy) then
   bif Eb (Eb true (idx i z0)) (inl (Int.toNat i) z0) then
    bif Eb (Eb true (idx i z1)) (inl (Int.toNat i) z1) then
     bif Eb (Eb (Eb true (idx i z3)) (inl (Int.toNat i) z3)) (OM 1 z5 z6) then
      oD z7.1 (nM (i+1)) (List.set z3 (Int.toNat i) (bQ z4 3 [.sl z7.2]))
     else ke
    else ke
   else ke
  else ke
 else k_ qE zy
def xX (k_:Int→Rows→α) (N m_:Nat):Int→Int→Rows→α:=
 Nat.rec (motive:=fun _=>Int→Int→Rows→α) (fun _ _ _=>ke) (fun _ oD=>xY ke k_ oD) m_
theorem TD (k_:Int→Rows→α) (N m_:Nat):xX ke k_ N (m_+1)=xY ke k_ (xX ke k_ N m_):=rfl
def QT {α:Type} (ke:α) (k_:Int→Rows→α) (l0:Int→Int→Rows→α) (a:Rows) (k:Int):α:=
 l0 k 0 a
def Zp (k_:Int→Rows→α) (N:Nat) (a:Rows) (k:Int):α:=QT ke k_ (xX ke k_ N N) a k
def rG (r:List DC) (k:Int):List DC×Int:=([.int (k),.int (k+1),.int (k+1+1),.sl (uT rk 1 (rR r 3).length (k+1+1+1))],k+1+1+1+1*(rR r 3).length)
def Sh (r:List DC) (k:Int):Bool:=OM 1 (rR r 3) (k+1+1+1)
def ze (a:Rows) (k:Int):Int×Rows:=((R6 rG a k).2,(R6 rG a k).1)
theorem nni (k_:Int→Rows→α) (a:Rows) (k:Int) (pU:G1 (.sl [.i,.i,.i,.sl [.i]]) (.sl a)) (aJ:yd rG Sh a k=true):∃N,Zp ke k_ N a k=k_ (ze a k).1 (ze a k).2:=by
 obtain⟨hl,hw⟩:=oh pU
 refine⟨a.length+1, ?_⟩
 unfold Zp QT ze
 refine nzU a k rG Sh (xX ke k_ (a.length+1)) k_ aJ ?_ ?_
 ·intro n i k b h hb hn hg
  rw[TD]
  have hr:=Oc (hw (nth a i) (tI h))
  have hk: -1*4≤k:=by have:=(VJ hg).2.1;omega
  rw[←hn] at hg hr ⊢
  have mh:i<b.length:=by omega
  generalize MD:nth b i=r at*
  match r,hr with
  | [a0,a1,a2,a3],_=>
   have H2:OM 1 (DC.cT a3) (k+1+1+1)=true:=hg
   obtain⟨g1,g2,g3⟩:=VJ H2
   have rr:∀x0 x1 x2 x3:DC,rR [x0,x1,x2,x3] 3=DC.cT x3:=fun _ _ _ _=>rfl
   have s0:∀x0 x1 x2 x3 v:DC,bQ [x0,x1,x2,x3] 0 [v]=[v,x1,x2,x3]:=fun _ _ _ _ _=>rfl
   have s1:∀x0 x1 x2 x3 v:DC,bQ [x0,x1,x2,x3] 1 [v]=[x0,v,x2,x3]:=fun _ _ _ _ _=>rfl
   have s2:∀x0 x1 x2 x3 v:DC,bQ [x0,x1,x2,x3] 2 [v]=[x0,x1,v,x3]:=fun _ _ _ _ _=>rfl
   have s3:∀x0 x1 x2 x3 v:DC,bQ [x0,x1,x2,x3] 3 [v]=[x0,x1,x2,v]:=fun _ _ _ _ _=>rfl
   have w0:nM (k+1)=k+1:=nQ (by omega) (by omega)
   have w1:nM (k+1+1)=k+1+1:=nQ (by omega) (by omega)
   have w2:nM (k+1+1+1)=k+1+1+1:=nQ (by omega) (by omega)
   simp only[xY,oL mh,nT mh,sZ mh,oa h hl,Int.toNat_natCast,ng,nm,cond_true,MD,w0,w1,w2,nzF,nzS,List.set_set,nuW mh,s0,s1,s2,s3,rr,rv,H2,rG]
 ·intro n k b hb
  rw[TD]
  simp only[xY,←hb,nN,cond_false]
def naT (a:Rows):Bool:=sm a && a.all (fun r=>sm (rR r 3))
theorem nrO {a:Rows} (h:naT a=true) {k:Int} (h0:0≤k) (h1:k≤600000000000000):yd rG Sh a k=true∧k≤(ze a k).1∧(ze a k).1≤k+281475110928384:=by
 simp only[naT,Bool.and_eq_true,List.all_eq_true] at h
 have hl:=sd h.1
 obtain⟨h2,h3,h4⟩:=nn9 (f:=rG) (g:=Sh) (B:=1125899906842000) (C:=16777224) (by omega) a k (fun r hr k k0 k1=>by
  have hs:=sd (h.2 r hr)
  refine⟨yE (h.2 r hr) (by omega) (by omega), ?_, ?_⟩
  ·show k≤k+1+1+1+1*((rR r 3).length:Int)
   omega
  ·show k+1+1+1+1*((rR r 3).length:Int)≤k+16777224
   omega) h0 (by omega)
 exact⟨h2,h3,by show (R6 rG a k).2≤_;omega⟩
def xS (k_:Int→α) (a:Rows) (oD:Int→Int→α) (qE i:Int):α:=
 let z0:Int:=nM ((nM (qE+1))+1)
 let z1:Int:=nM (z0+1)
 let z2:Int:=qX (rR (nth a (Int.toNat i)) 3) z1
 bif decide (i<len a) then
  bif Eb true (idx i a) then
   bif (rI (nth a (Int.toNat i)) 0) != qE then k_ (-1)
   else bif Eb true (idx i a) then
     bif (rI (nth a (Int.toNat i)) 1) != (nM (qE+1)) then k_ (-1)
     else bif Eb true (idx i a) then
       bif (rI (nth a (Int.toNat i)) 2) != z0 then k_ (-1)
       else bif Eb (Eb true (idx i a)) (Qm rk 1 (rR (nth a (Int.toNat i)) 3) z1) then
         bif decide (z2<0) then k_ (-1)
         else oD z2 (nM (i+1))
        else ke
      else ke
    else ke
  else ke
 else k_ qE
def xR (k_:Int→α) (N:Nat) (a:Rows) (m_:Nat):Int→Int→α:=
 Nat.rec (motive:=fun _=>Int→Int→α) (fun _ _=>ke) (fun _ oD=>xS ke k_ a oD) m_
theorem Tt (k_:Int→α) (N:Nat) (a:Rows) (m_:Nat):xR ke k_ N a (m_+1)=xS ke k_ a (xR ke k_ N a m_):=rfl
def QL {α:Type} (ke:α) (k_:Int→α) (l0:Int→Int→α) (a:Rows) (k:Int):α:=
 l0 k 0
def Za (k_:Int→α) (N:Nat) (a:Rows) (k:Int):α:=QL ke k_ (xR ke k_ N a N) a k
def nfF (a:Rows) (k:Int):Bool:=same a (R6 rG a k).1 && yd rG Sh a k
def Yw (a:Rows) (k:Int):Int:=(R6 rG a k).2
theorem nm6 (k_:Int→α) (a:Rows) (k:Int) (pU:G1 (.sl [.i,.i,.i,.sl [.i]]) (.sl a)) (aJ:nfF a k=true):∃N,Za ke k_ N a k=k_ (Yw a k):=by
 obtain⟨hl,hw⟩:=oh pU
 simp only[nfF,Bool.and_eq_true] at aJ
 refine⟨a.length+1, ?_⟩
 unfold Za QL Yw
 refine nzD a k rG Sh (xR ke k_ (a.length+1) a) k_ aJ.2 (rh aJ.1) ?_ ?_
 ·intro n i k h hn hg
  rw[Tt]
  have H2:OM 1 (rR (nth a i) 3) (k+1+1+1)=true:=hg
  obtain⟨g1,g2,g3⟩:=VJ H2
  have e:rR (nth a i) 3=uT rk 1 (rR (nth a i) 3).length (k+1+1+1):=congrArg (fun r=>rR r 3) hn
  have hh:Qm rk 1 (rR (nth a i) 3) (k+1+1+1)=true:=by
   simp only[Qm,Bool.and_eq_true]
   exact⟨by rw[←e];exact pA _,H2⟩
  have r0:rI (nth a i) 0=k:=congrArg (fun r=>rI r 0) hn
  have r1:rI (nth a i) 1=k+1:=congrArg (fun r=>rI r 1) hn
  have r2:rI (nth a i) 2=k+1+1:=congrArg (fun r=>rI r 2) hn
  have w0:nM (k+1)=k+1:=nQ (by omega) (by omega)
  have w1:nM (k+1+1)=k+1+1:=nQ (by omega) (by omega)
  have w2:nM (k+1+1+1)=k+1+1+1:=nQ (by omega) (by omega)
  have hz:¬k+1+1+1+1*((rR (nth a i) 3).length:Int)<0:=by omega
  simp only[xS,oL h,nT h,oa h hl,Int.toNat_natCast,ng,nm,cond_true,hh,qX,hz,w0,w1,w2,r0,r1,r2,bne_self_eq_false,beq_self_eq_true,Bool.not_true,decide_false,cond_false,rG]
 ·intro n k
  rw[Tt]
  simp only[xS,nN,cond_false]
theorem nBU {a:Rows} (h:naT a=true) {k:Int} (h0:0≤k) (h1:k≤600000000000000):yd rG Sh a k=true∧nfF (R6 rG a k).1 k=true∧(R6 rG (R6 rG a k).1 k).2=(R6 rG a k).2∧k≤(R6 rG a k).2∧(R6 rG a k).2≤k+281475110928384:=by
 obtain⟨h2,h3,h4⟩:=nrO h h0 h1
 have hl:∀r k,(rR (rG r k).1 3).length=(rR r 3).length:=fun r k=>pL rk 1 _ _
 have hf:∀r k,rG (rG r k).1 k=rG r k:=by
  intro r k
  have e:=hl r k
  unfold rG at e ⊢
  simp only[e]
 have hg:∀r k,Sh (rG r k).1 k=Sh r k:=by
  intro r k
  simp only[Sh,OM,sm,hl]
 obtain⟨t1,t2⟩:=nn_ hf hg a k
 refine⟨h2, ?_,by rw[t1],h3,h4⟩
 simp only[nfF,t1,t2,h2,pA,Bool.and_self]
def UG {α:Type} (k_:Bool→α) (n low high:Int):α:=
 k_ (bif decide (low≤n) then decide (n≤high) else false)
def nf (n low high:Int):Bool:=UG id n low high
theorem ntO {α:Type} (k_:Bool→α) (n low high:Int):UG k_ n low high=k_ (nf n low high):=by
 rfl
def nzj {α:Type} (k_:Bool→α) (x least most:Int):α:=
 k_ (bif decide (least≤x) then decide (x≤most) else false)
theorem nzi {α:Type} (k_:Bool→α) (x least most:Int):nzj k_ x least most=k_ (nf x least most):=by
 exact rfl
def yP (k_:Bool→α) (x:Rows) (nX wG:Int) (uV:Rows) (oD:Int→α) (oc:Int):α:=
 let z0:Bool:= !(nf (rI (nth x (Int.toNat oc)) 0) 0 4095)
 bif decide (oc<nX) then
  bif Eb true (idx oc x) then
   bif LV z0 true (LV (decide (0<oc)) (Eb true (idx (nM (oc - 1)) uV)) true) then
    bif bif z0 then true else bif decide (0<oc) then decide (rI (nth x (Int.toNat oc)) 0≤rI (nth uV (Int.toNat (nM (oc - 1)))) 0) else false then k_ false
    else oD (nM (oc+1))
   else ke
  else ke
 else k_ (bif nf wG 0 281474976710654 then decide (len uV≤8) else false)
def yO (k_:Bool→α) (N:Nat) (x:Rows) (nX wG:Int) (uV:Rows) (m_:Nat):Int→α:=
 Nat.rec (motive:=fun _=>Int→α) (fun _=>ke) (fun _ oD=>yP ke k_ x nX wG uV oD) m_
theorem Um (k_:Bool→α) (N:Nat) (x:Rows) (nX wG:Int) (uV:Rows) (m_:Nat):yO ke k_ N x nX wG uV (m_+1)=yP ke k_ x nX wG uV (yO ke k_ N x nX wG uV m_):=rfl
def Np {α:Type} (ke:α) (k_:Bool→α) (l0:Rows→Int→Int→Rows→Int→α) (f:nC):α:=
 l0 f.pH (len f.pH) f.Mac f.pH 0
def na_ (k_:Bool→α) (N:Nat) (f:nC):α:=Np ke k_ (fun x nX wG uV=>yO ke k_ N x nX wG uV N) f
def vg (f:nC):Bool:=bif qn (fun i r=>bif !(nf (rI r 0) 0 4095) then true else bif decide ((0:Int)<(i:Int)) then decide (rI r 0≤rI (nth f.pH (Int.toNat (nM ((i:Int) - 1)))) 0) else false) f.pH 0 then false else bif nf f.Mac 0 281474976710654 then decide (len f.pH≤8) else false
theorem npj (k_:Bool→α) (f:nC) (h_f:kc nC.ct f.enc):∃N,na_ ke k_ N f=k_ (vg f):=by
 obtain⟨hl,_⟩:=oh (nC.nv_ h_f)
 refine⟨f.pH.length+1, ?_⟩
 unfold na_ Np
 refine (qS f.pH (yO ke k_ (f.pH.length+1) f.pH (len f.pH) f.Mac f.pH) (fun i r c=>bif bif !(nf (rI r 0) 0 4095) then true else bif decide ((0:Int)<(i:Int)) then decide (rI r 0≤rI (nth f.pH (Int.toNat (nM ((i:Int) - 1)))) 0) else false then k_ false else c) (k_ (bif nf f.Mac 0 281474976710654 then decide (len f.pH≤8) else false)) ?_ ?_).trans ?_
 ·intro n i h
  have hp:decide ((0:Int)<(i:Int))=true→idx (nM ((i:Int) - 1)) f.pH=true:=by
   intro h0
   have h0:=of_decide_eq_true h0
   rw[nQ (by omega) (by omega),show (i:Int) - 1=((i - 1:Nat):Int) by omega]
   exact nT (by omega)
  rw[Um]
  simp only[yP,oL h,nT h,oa h hl,Int.toNat_natCast,ng,nm,cond_true]
  exact nmf (Z0 (fun _=>rfl) (fun _=>Z0 (fun h0=>hp h0) (fun _=>rfl)))
 ·intro n
  rw[Um]
  simp only[yP,nN,cond_false]
 ·refine (wi (fun i r=>bif !(nf (rI r 0) 0 4095) then true else bif decide ((0:Int)<(i:Int)) then decide (rI r 0≤rI (nth f.pH (Int.toNat (nM ((i:Int) - 1)))) 0) else false) _ _ f.pH 0).trans ?_
  exact J5 rfl rfl
def zl (k_:Bool→α) (wG:Int) (uV:Rows) (oD:Int→α) (k:Int):α:=
 let z0:Bool:= !(nf (rI (nth uV (Int.toNat k)) 0) 0 4095)
 bif decide (k<len uV) then
  bif LV z0 (Eb true (idx k uV)) (LV (decide (0<k)) (Eb (Eb (Eb true (idx k uV)) (idx k uV)) (idx (nM (k - 1)) uV)) (Eb true (idx k uV))) then
   bif bif z0 then true else bif decide (0<k) then decide (rI (nth uV (Int.toNat k)) 0≤rI (nth uV (Int.toNat (nM (k - 1)))) 0) else false then k_ false
   else oD (nM (k+1))
  else ke
 else k_ (bif nf wG 0 281474976710654 then decide (len uV≤8) else false)
def zk (k_:Bool→α) (N:Nat) (wG:Int) (uV:Rows) (m_:Nat):Int→α:=
 Nat.rec (motive:=fun _=>Int→α) (fun _=>ke) (fun _ oD=>zl ke k_ wG uV oD) m_
theorem VO (k_:Bool→α) (N:Nat) (wG:Int) (uV:Rows) (m_:Nat):zk ke k_ N wG uV (m_+1)=zl ke k_ wG uV (zk ke k_ N wG uV m_):=rfl
def N0 {α:Type} (ke:α) (k_:Bool→α) (l0:Int→Rows→Int→α) (f:nC):α:=
 l0 f.Mac f.pH 0
def ncv (k_:Bool→α) (N:Nat) (f:nC):α:=N0 ke k_ (fun wG uV=>zk ke k_ N wG uV N) f
theorem nrZ (k_:Bool→α) (f:nC) (h_f:kc nC.ct f.enc):∃N,ncv ke k_ N f=k_ (vg f):=by
 obtain⟨hl,_⟩:=oh (nC.nv_ h_f)
 refine⟨f.pH.length+1, ?_⟩
 unfold ncv N0
 refine (qS f.pH (zk ke k_ (f.pH.length+1) f.Mac f.pH) (fun i r c=>bif bif !(nf (rI r 0) 0 4095) then true else bif decide ((0:Int)<(i:Int)) then decide (rI r 0≤rI (nth f.pH (Int.toNat (nM ((i:Int) - 1)))) 0) else false then k_ false else c) (k_ (bif nf f.Mac 0 281474976710654 then decide (len f.pH≤8) else false)) ?_ ?_).trans ?_
 ·intro n i h
  have hp:decide ((0:Int)<(i:Int))=true→idx (nM ((i:Int) - 1)) f.pH=true:=by
   intro h0
   have h0:=of_decide_eq_true h0
   rw[nQ (by omega) (by omega),show (i:Int) - 1=((i - 1:Nat):Int) by omega]
   exact nT (by omega)
  rw[VO]
  simp only[zl,oL h,nT h,oa h hl,Int.toNat_natCast,ng,nm,cond_true]
  exact nmf (Z0 (fun _=>rfl) (fun _=>Z0 (fun h0=>hp h0) (fun _=>rfl)))
 ·intro n
  rw[VO]
  simp only[zl,nN,cond_false]
 ·refine (wi (fun i r=>bif !(nf (rI r 0) 0 4095) then true else bif decide ((0:Int)<(i:Int)) then decide (rI r 0≤rI (nth f.pH (Int.toNat (nM ((i:Int) - 1)))) 0) else false) _ _ f.pH 0).trans ?_
  exact J5 rfl rfl
def wm {α:Type} (k_:Bool→α) (g:nD):α:=
 bif bif !(nf g.oN 0 65535) then true else bif !(nf g.oM 0 65535) then true else decide (320<len g.Body) then k_ false
 else bif g.Kind==6 then k_ (bif nf g.Seq 0 4294967295 then bif nf g.Ack 0 4294967295 then bif nf g.Flags 0 31 then nf g.tM 0 65535 else false else false else false)
 else bif g.Kind==17 then k_ (bif g.Seq==0 then bif g.Ack==0 then bif g.Flags==0 then g.tM==0 else false else false else false)
 else k_ false
def sO (g:nD):Bool:=wm id g
theorem nmt {α:Type} (k_:Bool→α) (g:nD):wm k_ g=k_ (sO g):=by
 exact J5 rfl (J5 rfl (J5 rfl rfl))
def Z9 {α:Type} (k_:Bool→α) (g:nD):α:=
 bif bif !(nf g.oN 0 65535) then true else bif !(nf g.oM 0 65535) then true else decide (320<len g.Body) then k_ false
 else bif g.Kind==17 then k_ (bif g.Seq==0 then bif g.Ack==0 then bif g.Flags==0 then g.tM==0 else false else false else false)
 else k_ (bif g.Kind==6 then bif nf g.Seq 0 4294967295 then bif nf g.Ack 0 4294967295 then bif nf g.Flags 0 31 then nf g.tM 0 65535 else false else false else false else false)
theorem noo {α:Type} (k_:Bool→α) (g:nD):Z9 k_ g=k_ (sO g):=by
 unfold Z9 sO wm
 refine J5 rfl ?_
 by_cases h6:g.Kind=6
 ·have h17:(g.Kind==17)=false:=by rw[h6];rfl
  have h6':(g.Kind==6)=true:=by rw[h6];rfl
  rw[h17,h6']
  rfl
 ·have h6':(g.Kind==6)=false:=by simpa using h6
  rw[h6']
  cases (g.Kind==17)<;>rfl
def YI {α:Type} (k_:Bool→α) (flags:Int):α:=
 k_ (bif (bits .and .i64 flags 16) != 0 then (bits .andNot .i64 flags 25)==0 else false)
def T4 (flags:Int):Bool:=YI id flags
theorem nmC {α:Type} (k_:Bool→α) (flags:Int):YI k_ flags=k_ (T4 flags):=by
 rfl
def Ps {α:Type} (k_:Bool→α) (p:nx):α:=
 k_ (bif nf p.we 0 281474976710655 then bif nf p.wg 0 281474976710655 then bif nf p.sQ (-1) 4095 then bif nf p.Tos 0 255 then bif nf p.Ttl 0 255 then bif nf p.Id 0 65535 then bif nf p.ql 0 4294967295 then bif nf p.qK 0 4294967295 then bif sO p.tU then bif decide (len p.tU.Body≤128) then true else bif p.tU.Kind==6 then T4 p.tU.Flags else false else false else false else false else false else false else false else false else false else false)
def sY (p:nx):Bool:=Ps id p
theorem ntI {α:Type} (k_:Bool→α) (p:nx):Ps k_ p=k_ (sY p):=by
 rfl
def neV {α:Type} (k_:Bool→α) (p:nx):α:=
 bif bif !(nf p.we 0 281474976710655) then true else bif !(nf p.wg 0 281474976710655) then true else bif !(nf p.sQ (-1) 4095) then true else bif !(nf p.Tos 0 255) then true else bif !(nf p.Ttl 0 255) then true else bif !(nf p.Id 0 65535) then true else bif !(nf p.ql 0 4294967295) then true else bif !(nf p.qK 0 4294967295) then true else !(sO p.tU) then k_ false
 else k_ (bif bif p.tU.Kind==6 then (bits .andNot .i64 p.tU.Flags 9)==16 else false then true else decide (len p.tU.Body≤128))
theorem nzk {f:Int} (h:nf f 0 31=true):((bits .andNot .i64 f 9)==16)=T4 f:=by
 have key:∀n:Fin 32,((bits .andNot .i64 ((n.val:Nat):Int) 9)==16)=T4 ((n.val:Nat):Int):=by decide+kernel
 have h0:0≤f∧f≤31:=by
  unfold nf UG at h
  by_cases h1:0≤f
  ·by_cases h2:f≤31
   ·exact⟨h1,h2⟩
   ·simp [h1,h2] at h
  ·simp [h1] at h
 have:=key ⟨f.toNat,by omega⟩
 simp only at this
 rw[show ((f.toNat:Nat):Int)=f by omega] at this
 exact this
theorem nBj {g:nD} (h:sO g=true) (h6:(g.Kind==6)=true):nf g.Flags 0 31=true:=by
 unfold sO wm at h
 rw[h6] at h
 cases hb:nf g.Flags 0 31
 ·rw[hb] at h
  revert h
  cases (bif !(nf g.oN 0 65535) then true else bif !(nf g.oM 0 65535) then true else decide (320<len g.Body))<;>cases nf g.Seq 0 4294967295<;>cases nf g.Ack 0 4294967295<;>simp
 ·rfl
theorem nvu {α:Type} (k_:Bool→α) (p:nx):neV k_ p=k_ (sY p):=by
 unfold neV sY Ps
 cases nf p.we 0 281474976710655
 ·rfl
 cases nf p.wg 0 281474976710655
 ·rfl
 cases nf p.sQ (-1) 4095
 ·rfl
 cases nf p.Tos 0 255
 ·rfl
 cases nf p.Ttl 0 255
 ·rfl
 cases nf p.Id 0 65535
 ·rfl
 cases nf p.ql 0 4294967295
 ·rfl
 cases nf p.qK 0 4294967295
 ·rfl
 cases hs:sO p.tU
 ·rfl
 cases h6:(p.tU.Kind==6)
 ·cases decide (len p.tU.Body≤128)<;>rfl
 ·rw[nzk (nBj hs h6)]
  cases T4 p.tU.Flags<;>cases decide (len p.tU.Body≤128)<;>rfl
def vW (k_:Int→α) (domain oV:Int) (list_:Rows) (nX:Int) (oD:Int→α) (oc:Int):α:=
 bif decide (oc<nX) then
  bif Eb true (idx oc list_) then
   bif bif (rI (nth list_ (Int.toNat oc)) 0)==domain then (rI (nth list_ (Int.toNat oc)) 1)==oV else false then k_ oc
   else oD (nM (oc+1))
  else ke
 else k_ (-1)
def vV (k_:Int→α) (N:Nat) (domain oV:Int) (list_:Rows) (nX:Int) (m_:Nat):Int→α:=
 Nat.rec (motive:=fun _=>Int→α) (fun _=>ke) (fun _ oD=>vW ke k_ domain oV list_ nX oD) m_
theorem Qp (k_:Int→α) (N:Nat) (domain oV:Int) (list_:Rows) (nX:Int) (m_:Nat):vV ke k_ N domain oV list_ nX (m_+1)=vW ke k_ domain oV list_ nX (vV ke k_ N domain oV list_ nX m_):=rfl
def Om {α:Type} (ke:α) (k_:Int→α) (l0:Int→Int→α) (list_:Rows) (domain oV:Int):α:=
 l0 (len list_) 0
def US (k_:Int→α) (N:Nat) (list_:Rows) (domain oV:Int):α:=Om ke k_ (fun nX=>vV ke k_ N domain oV list_ nX N) list_ domain oV
def rY (list_:Rows) (domain oV:Int):Int:=findIdx (fun _ r=>bif (rI r 0)==domain then (rI r 1)==oV else false) list_ 0
theorem nie (k_:Int→α) (list_:Rows) (domain oV:Int) (pE:G1 (.sl [.i,.i,.i,.bool]) (.sl list_)):∃N,US ke k_ N list_ domain oV=k_ (rY list_ domain oV):=by
 obtain⟨hl,_⟩:=oh pE
 refine⟨list_.length+1, ?_⟩
 unfold US Om
 refine (qS list_ (vV ke k_ (list_.length+1) domain oV list_ (len list_)) (fun i r c=>bif bif (rI r 0)==domain then (rI r 1)==oV else false then k_ (i:Int) else c) (k_ (-1)) ?_ ?_).trans ?_
 ·intro n i h
  rw[Qp]
  simp only[vW,oL h,nT h,oa h hl,Int.toNat_natCast,ng,nm,cond_true]
 ·intro n
  rw[Qp]
  simp only[vW,nN,cond_false]
 ·exact nar (fun i r=>bif (rI r 0)==domain then (rI r 1)==oV else false) k_ list_ 0
def wM (k_:Bool→α) (list_ x:Rows) (nX:Int) (oD:Int→α) (oc:Int):α:=
 bif decide (oc<nX) then
  bif Eb true (idx oc x) then
   bif bif !(nf (rI (nth x (Int.toNat oc)) 0) 0 7) then true else bif !(nf (rI (nth x (Int.toNat oc)) 1) 0 1023) then true else bif !(nf (rI (nth x (Int.toNat oc)) 2) 0 63) then true else (rY list_ (rI (nth x (Int.toNat oc)) 0) (rI (nth x (Int.toNat oc)) 1)) != oc then k_ false
   else oD (nM (oc+1))
  else ke
 else k_ (decide (len list_≤96))
def wL (k_:Bool→α) (N:Nat) (list_ x:Rows) (nX:Int) (m_:Nat):Int→α:=
 Nat.rec (motive:=fun _=>Int→α) (fun _=>ke) (fun _ oD=>wM ke k_ list_ x nX oD) m_
theorem RV (k_:Bool→α) (N:Nat) (list_ x:Rows) (nX:Int) (m_:Nat):wL ke k_ N list_ x nX (m_+1)=wM ke k_ list_ x nX (wL ke k_ N list_ x nX m_):=rfl
def xH {α:Type} (ke:α) (k_:Bool→α) (l0:Rows→Int→Int→α) (list_:Rows):α:=
 l0 list_ (len list_) 0
def Wy (k_:Bool→α) (N:Nat) (list_:Rows):α:=xH ke k_ (fun x nX=>wL ke k_ N list_ x nX N) list_
def vM (r:List DC):Bool:=bif !(nf (rI r 0) 0 7) then true else bif !(nf (rI r 1) 0 1023) then true else !(nf (rI r 2) 0 63)
def oQ (list_:Rows):Bool:=bif decide (96<len list_) then false else bif qn (fun i r=>bif vM r then true else wh (fun j=>bif (rI (nth list_ j) 0)==(rI r 0) then (rI (nth list_ j) 1)==(rI r 1) else false) i 0) list_ 0 then false else true
theorem njV (k_:Bool→α) (list_:Rows) (pE:G1 (.sl [.i,.i,.i,.bool]) (.sl list_)):∃N,Wy ke k_ N list_=k_ (oQ list_):=by
 obtain⟨hl,_⟩:=oh pE
 refine⟨list_.length+1, ?_⟩
 unfold Wy xH
 refine (qS list_ (wL ke k_ (list_.length+1) list_ list_ (len list_)) (fun i r c=>bif (bif vM r then true else (rY list_ (rI r 0) (rI r 1)) != (i:Int)) then k_ false else c) (k_ (decide (len list_≤96))) ?_ ?_).trans ?_
 ·intro n i h
  rw[RV]
  simp only[wM,oL h,nT h,oa h hl,Int.toNat_natCast,ng,nm,cond_true]
  unfold vM
  cases nf (rI (nth list_ i) 0) 0 7<;>cases nf (rI (nth list_ i) 1) 0 1023<;>cases nf (rI (nth list_ i) 2) 0 63<;>rfl
 ·intro n
  rw[RV]
  simp only[wM,nN,cond_false]
 ·refine (wi (fun i r=>bif vM r then true else (rY list_ (rI r 0) (rI r 1)) != (i:Int)) _ _ list_ 0).trans ?_
  have e:qn (fun i r=>bif vM r then true else (rY list_ (rI r 0) (rI r 1)) != (i:Int)) list_ 0=qn (fun i r=>bif vM r then true else wh (fun j=>bif (rI (nth list_ j) 0)==(rI r 0) then (rI (nth list_ j) 1)==(rI r 1) else false) i 0) list_ 0:=by
   apply njH
   intro i hi
   rw[Nat.zero_add]
   have hf:=nhA (fun _ r=>bif (rI r 0)==(rI (nth list_ i) 0) then (rI r 1)==(rI (nth list_ i) 1) else false) list_ 0 i hi (by simp)
   rw[Nat.zero_add] at hf
   have hf:((rY list_ (rI (nth list_ i) 0) (rI (nth list_ i) 1)) != (i:Int))=_:=hf
   rw[hf]
  rw[e]
  unfold oQ
  by_cases h9:96<len list_
  ·simp only[decide_eq_true h9,cond_true,show decide (len list_≤96)=false from decide_eq_false (by omega)]
   cases qn (fun i r=>bif vM r then true else wh (fun j=>bif (rI (nth list_ j) 0)==(rI r 0) then (rI (nth list_ j) 1)==(rI r 1) else false) i 0) list_ 0<;>rfl
  ·simp only[decide_eq_false h9,cond_false,show decide (len list_≤96)=true from decide_eq_true (by omega)]
   exact J5 rfl rfl
def uF (k_:Bool→α) (l1:Int→Int→Int→Int→α) (list_:Rows) (oD:Int→α) (k:Int):α:=
 bif decide (k<len list_) then
  bif Eb true (idx k list_) then
   bif bif !(nf (rI (nth list_ (Int.toNat k)) 0) 0 7) then true else bif !(nf (rI (nth list_ (Int.toNat k)) 1) 0 1023) then true else !(nf (rI (nth list_ (Int.toNat k)) 2) 0 63) then k_ false
   else l1 k (rI (nth list_ (Int.toNat k)) 0) (rI (nth list_ (Int.toNat k)) 1) 0
  else ke
 else k_ true
def uG (k_:Bool→α) (oD:Int→α) (list_:Rows) (k x nX:Int) (ih1:Int→α) (i:Int):α:=
 let z0:Bool:=(rI (nth list_ (Int.toNat i)) 0)==x
 bif decide (i<k) then
  bif LV z0 (Eb (Eb true (idx i list_)) (idx i list_)) (Eb true (idx i list_)) then
   bif bif z0 then (rI (nth list_ (Int.toNat i)) 1)==nX else false then k_ false
   else ih1 (nM (i+1))
  else ke
 else oD (nM (k+1))
def qT (k_:Bool→α) (N:Nat) (oD:Int→α) (list_:Rows) (k x nX:Int) (m_:Nat):Int→α:=
 Nat.rec (motive:=fun _=>Int→α) (fun _=>ke) (fun _ ih1=>uG ke k_ oD list_ k x nX ih1) m_
theorem R9 (k_:Bool→α) (N:Nat) (oD:Int→α) (list_:Rows) (k x nX:Int) (m_:Nat) (i:Int):qT ke k_ N oD list_ k x nX (m_+1) i=uG ke k_ oD list_ k x nX (qT ke k_ N oD list_ k x nX m_) i:=rfl
def th (k_:Bool→α) (N:Nat) (list_:Rows) (m_:Nat):Int→α:=
 Nat.rec (motive:=fun _=>Int→α) (fun _=>ke) (fun _ oD=>uF ke k_ (fun k x nX=>qT ke k_ N oD list_ k x nX N) list_ oD) m_
theorem R8 (k_:Bool→α) (N:Nat) (list_:Rows) (m_:Nat) (k:Int):th ke k_ N list_ (m_+1) k=uF ke k_ (fun k x nX=>qT ke k_ N (th ke k_ N list_ m_) list_ k x nX N) list_ (th ke k_ N list_ m_) k:=rfl
def XH {α:Type} (ke:α) (k_:Bool→α) (l0:Int→α) (list_:Rows):α:=
 bif decide (96<len list_) then k_ false
 else l0 0
def PZ (k_:Bool→α) (N:Nat) (list_:Rows):α:=XH ke k_ (th ke k_ N list_ N) list_
theorem nlR (k_:Bool→α) (list_:Rows) (pE:G1 (.sl [.i,.i,.i,.bool]) (.sl list_)):∃N,PZ ke k_ N list_=k_ (oQ list_):=by
 obtain⟨hl,_⟩:=oh pE
 refine⟨list_.length+1, ?_⟩
 unfold PZ XH oQ
 refine J5 rfl ?_
 have inner:∀(ih:Int→α) (i:Nat),i<list_.length→qT ke k_ (list_.length+1) ih list_ (i:Int) (rI (nth list_ i) 0) (rI (nth list_ i) 1) (list_.length+1) 0=bif wh (fun j=>bif (rI (nth list_ j) 0)==(rI (nth list_ i) 0) then (rI (nth list_ j) 1)==(rI (nth list_ i) 1) else false) i 0 then k_ false else ih ((i:Int)+1):=by
  intro ih i hi
  have hw:nM ((i:Int)+1)=(i:Int)+1:=oa hi hl
  have:=nlC (σ:=Unit) i (fun n j _=>qT ke k_ (list_.length+1) ih list_ (i:Int) (rI (nth list_ i) 0) (rI (nth list_ i) 1) n j) (fun j c s=>bif (bif (rI (nth list_ j) 0)==(rI (nth list_ i) 0) then (rI (nth list_ j) 1)==(rI (nth list_ i) 1) else false) then k_ false else c s) (fun _=>ih ((i:Int)+1)) ?_ ?_ (list_.length+1) () (by omega)
  ·exact this.trans (nsQ (fun j=>bif (rI (nth list_ j) 0)==(rI (nth list_ i) 0) then (rI (nth list_ j) 1)==(rI (nth list_ i) 1) else false) (k_ false) (ih ((i:Int)+1)) i 0)
  ·intro n j _ hj
   show qT ke k_ (list_.length+1) ih list_ (i:Int) (rI (nth list_ i) 0) (rI (nth list_ i) 1) (n+1) (j:Int)=_
   rw[R9]
   have h1:decide ((j:Int)<(i:Int))=true:=decide_eq_true (by omega)
   have h2:idx (j:Int) list_=true:=nT (by omega)
   have h3:nM ((j:Int)+1)=(j:Int)+1:=nQ (by omega) (by omega)
   simp only[uG,h1,h2,h3,Int.toNat_natCast,ng,nm,zG,cond_true]
  ·intro n _
   show qT ke k_ (list_.length+1) ih list_ (i:Int) (rI (nth list_ i) 0) (rI (nth list_ i) 1) (n+1) (i:Int)=_
   rw[R9]
   have h1:decide ((i:Int)<(i:Int))=false:=decide_eq_false (by omega)
   simp only[uG,h1,hw,cond_false]
 refine (vL list_ (th ke k_ (list_.length+1) list_) (fun i r c=>bif (bif vM r then true else wh (fun j=>bif (rI (nth list_ j) 0)==(rI r 0) then (rI (nth list_ j) 1)==(rI r 1) else false) i 0) then k_ false else c) (k_ true) ?_ ?_ (list_.length+1) (by omega)).trans ?_
 ·intro n i h
  rw[R8]
  simp only[uF,oL h,nT h,Int.toNat_natCast,ng,nm,cond_true,zG,inner _ i h]
  show (bif vM (nth list_ i) then k_ false else _)=_
  cases vM (nth list_ i)<;>rfl
 ·intro n
  rw[R8]
  simp only[uF,nN,cond_false]
 ·refine (wi (fun i r=>bif vM r then true else wh (fun j=>bif (rI (nth list_ j) 0)==(rI r 0) then (rI (nth list_ j) 1)==(rI r 1) else false) i 0) _ _ list_ 0).trans ?_
  exact J5 rfl rfl
def UM (k_:Rows→α) (l:Rows):α:=
 bif Eb true (oY 16 [] l) then
  k_ l
 else ke
theorem nh9 (k_:Rows→α) (l:Rows) (aJ:sm l=true):UM ke k_ l=k_ (oE l):=by
 unfold UM
 rw[qA aJ (show 16≤8388608 by omega)]
 rfl
def WN (k_:na→α) (m:na):α:=
 bif Eb true (sm m.nE) then
  k_ (⟨oE m.nE⟩:na)
 else ke
def sb (m:na):Bool:=sm m.nE
theorem nkb (k_:na→α) (m:na) (aJ:sb m=true):WN ke k_ m=k_ (oE m):=by
 have h:sm m.nE=true:=aJ
 unfold WN
 simp only[h,ng,cond_true]
 rfl
def yR (k_:Bool→α) (x:Rows) (nX:Int) (qH:Rows) (oD:Int→α) (oc:Int):α:=
 bif decide (oc<nX) then
  bif Eb true (idx oc x) then
   bif (len (rS (nth x (Int.toNat oc)) 0)) != 128 then k_ false
   else oD (nM (oc+1))
  else ke
 else k_ (decide (len qH≤64))
def yQ (k_:Bool→α) (N:Nat) (x:Rows) (nX:Int) (qH:Rows) (m_:Nat):Int→α:=
 Nat.rec (motive:=fun _=>Int→α) (fun _=>ke) (fun _ oD=>yR ke k_ x nX qH oD) m_
theorem Up (k_:Bool→α) (N:Nat) (x:Rows) (nX:Int) (qH:Rows) (m_:Nat):yQ ke k_ N x nX qH (m_+1)=yR ke k_ x nX qH (yQ ke k_ N x nX qH m_):=rfl
def Ns {α:Type} (ke:α) (k_:Bool→α) (l0:Rows→Int→Rows→Int→α) (m:na):α:=
 l0 m.nE (len m.nE) m.nE 0
def nbh (k_:Bool→α) (N:Nat) (m:na):α:=Ns ke k_ (fun x nX qH=>yQ ke k_ N x nX qH N) m
def pF (m:na):Bool:=bif qn (fun _ r=>(len (rS r 0)) != 128) m.nE 0 then false else decide (len m.nE≤64)
theorem npx (k_:Bool→α) (m:na) (h_m:kc na.ct m.enc):∃N,nbh ke k_ N m=k_ (pF m):=by
 obtain⟨hl,_⟩:=oh (na.Qk h_m)
 refine⟨m.nE.length+1, ?_⟩
 unfold nbh Ns pF
 refine (qS m.nE (yQ ke k_ (m.nE.length+1) m.nE (len m.nE) m.nE) (fun i r c=>bif (len (rS r 0)) != 128 then k_ false else c) (k_ (decide (len m.nE≤64))) ?_ ?_).trans ?_
 ·intro n i h
  rw[Up]
  simp only[yR,oL h,nT h,oa h hl,Int.toNat_natCast,ng,nm,cond_true]
 ·intro n
  rw[Up]
  simp only[yR,nN,cond_false]
 ·refine (wi (fun _ r=>(len (rS r 0)) != 128) _ _ m.nE 0).trans ?_
  exact J5 rfl rfl
def zn (k_:Bool→α) (qH:Rows) (oD:Int→α) (k:Int):α:=
 bif decide (k<len qH) then
  bif Eb true (idx k qH) then
   bif (len (rS (nth qH (Int.toNat k)) 0)) != 128 then k_ false
   else oD (nM (k+1))
  else ke
 else k_ (decide (len qH≤64))
def zm (k_:Bool→α) (N:Nat) (qH:Rows) (m_:Nat):Int→α:=
 Nat.rec (motive:=fun _=>Int→α) (fun _=>ke) (fun _ oD=>zn ke k_ qH oD) m_
theorem VS (k_:Bool→α) (N:Nat) (qH:Rows) (m_:Nat):zm ke k_ N qH (m_+1)=zn ke k_ qH (zm ke k_ N qH m_):=rfl
def S1 {α:Type} (ke:α) (k_:Bool→α) (l0:Rows→Int→α) (m:na):α:=
 l0 m.nE 0
def ncF (k_:Bool→α) (N:Nat) (m:na):α:=S1 ke k_ (fun qH=>zm ke k_ N qH N) m
theorem nsb (k_:Bool→α) (m:na) (h_m:kc na.ct m.enc):∃N,ncF ke k_ N m=k_ (pF m):=by
 obtain⟨hl,_⟩:=oh (na.Qk h_m)
 refine⟨m.nE.length+1, ?_⟩
 unfold ncF S1 pF
 refine (qS m.nE (zm ke k_ (m.nE.length+1) m.nE) (fun i r c=>bif (len (rS r 0)) != 128 then k_ false else c) (k_ (decide (len m.nE≤64))) ?_ ?_).trans ?_
 ·intro n i h
  rw[VS]
  simp only[zn,oL h,nT h,oa h hl,Int.toNat_natCast,ng,nm,cond_true]
 ·intro n
  rw[VS]
  simp only[zn,nN,cond_false]
 ·refine (wi (fun _ r=>(len (rS r 0)) != 128) _ _ m.nE 0).trans ?_
  exact J5 rfl rfl
def SC {α:Type} (k_:Bool→α) (n:Int):α:=
 k_ (bif n==2 then true else bif n==4 then true else bif n==8 then true else n==16)
def tY (n:Int):Bool:=SC id n
theorem nqe {α:Type} (k_:Bool→α) (n:Int):SC k_ n=k_ (tY n):=by
 rfl
def nvR {α:Type} (k_:Bool→α) (n:Int):α:=
 k_ (bif n==2 then true else bif n==4 then true else bif n==8 then true else n==16)
theorem nvQ {α:Type} (k_:Bool→α) (n:Int):nvR k_ n=k_ (tY n):=by
 exact rfl
def YL {α:Type} (k_:Bool→α) (n:Int):α:=
 k_ (bif n==1 then true else bif n==2 then true else bif n==4 then true else bif n==8 then true else n==16)
def T5 (n:Int):Bool:=YL id n
theorem nmI {α:Type} (k_:Bool→α) (n:Int):YL k_ n=k_ (T5 n):=by
 rfl
def nvD {α:Type} (k_:Bool→α) (n:Int):α:=
 k_ (bif n==1 then true else bif n==2 then true else bif n==4 then true else bif n==8 then true else n==16)
theorem nvB {α:Type} (k_:Bool→α) (n:Int):nvD k_ n=k_ (T5 n):=by
 exact rfl
def zU (k_:Int→α) (x n:Int):α:=
 bif Eb true (!(n==0)) then
  k_ (bif decide (Int.tmod x n<0) then nM ((Int.tmod x n)+n) else Int.tmod x n)
 else ke
def ON (x n:Int):Bool:=zU false (fun _=>true) x n
def naJ (x n:Int):Int:=(zU none (fun r0=>some (r0)) x n).getD 0
theorem nwD (k_:Int→α) (x n:Int) (aJ:ON x n=true):zU ke k_ x n=k_ (naJ x n):=by
 exact tD (K:=fun r:Int=>k_ r) (oe pz) aJ
def nbo (k_:Int→α) (r:nB):α:=
 let z0:Int:=nM ((naJ r.qG (nM (2*r.nL))) - (naJ r.Head (nM (2*r.nL))))
 bif !(tY r.nL) then k_ 0
 else bif Eb (Eb (Eb true (ON r.qG (nM (2*r.nL)))) (ON r.Head (nM (2*r.nL)))) (ON z0 (nM (2*r.nL))) then
   k_ (naJ z0 (nM (2*r.nL)))
  else ke
theorem ndg (k:Nat) (hk:k≤62) (a:Int):bits .and .i64 a ((2 ^ k - 1:Nat):Int)=a % ((2 ^ k:Nat):Int):=by
 have hp:2 ^ k≤2 ^ 62:=Nat.pow_le_pow_right (by decide) hk
 have h62:(2:Nat) ^ 62=4611686018427387904:=by decide
 have hd:2 ^ k ∣ (18446744073709551616:Nat):=by
  rw[show (18446744073709551616:Nat)=2 ^ 64 by decide]
  exact Nat.pow_dvd_pow 2 (by omega)
 have hc:(BitVec.ofInt 64 ((2 ^ k - 1:Nat):Int)).toNat=2 ^ k - 1:=by
  rw[BitVec.ofInt_natCast,BitVec.toNat_ofNat]
  exact Nat.mod_eq_of_lt (by omega)
 have hn:(BitVec.ofInt 64 a &&& BitVec.ofInt 64 ((2 ^ k - 1:Nat):Int)).toNat=(a % 18446744073709551616).toNat % 2 ^ k:=by
  rw[BitVec.toNat_and,hc,Nat.and_two_pow_sub_one_eq_mod,BitVec.toNat_ofInt]
  rfl
 have cn:(a % 18446744073709551616).toNat % 2 ^ k<2 ^ k:=Nat.mod_lt _ (Nat.pos_of_ne_zero (by intro h;have:=Nat.two_pow_pos k;omega))
 have h63:(((BitVec.ofInt 64 a &&& BitVec.ofInt 64 ((2 ^ k - 1:Nat):Int)).toNat:Nat):Int)<2 ^ 63:=by
  rw[hn]
  have:(2:Int) ^ 63=9223372036854775808:=by decide
  rw[this]
  omega
 have e:bits .and .i64 a ((2 ^ k - 1:Nat):Int)=(((BitVec.ofInt 64 a &&& BitVec.ofInt 64 ((2 ^ k - 1:Nat):Int)).toNat:Nat):Int):=
  nyx (((BitVec.ofInt 64 a &&& BitVec.ofInt 64 ((2 ^ k - 1:Nat):Int)).toNat:Nat):Int) (Int.natCast_nonneg _) h63
 rw[e,hn,Int.natCast_emod,Int.toNat_of_nonneg (Int.emod_nonneg _ (by decide)),Int.emod_emod_of_dvd]
 exact Int.natCast_dvd_natCast.2 hd
theorem and_3 (a:Int):bits .and .i64 a 3=a % 4:=ndg 2 (by decide) a
theorem nCu (a:Int):bits .and .i64 a 7=a % 8:=ndg 3 (by decide) a
theorem nCx (a:Int):bits .and .i64 a 15=a % 16:=ndg 4 (by decide) a
theorem nCy (a:Int):bits .and .i64 a 31=a % 32:=ndg 5 (by decide) a
theorem VM {n:Int} (h:tY n=true):n=2∨n=4∨n=8∨n=16:=by
 unfold tY SC at h
 by_cases h2:n=2
 ·exact .inl h2
 by_cases h4:n=4
 ·exact .inr (.inl h4)
 by_cases h8:n=8
 ·exact .inr (.inr (.inl h8))
 by_cases h16:n=16
 ·exact .inr (.inr (.inr h16))
 simp [h2,h4,h8,h16] at h
theorem naK {x n:Int} (hx: -9223372036854775808≤x) (Ck:x≤9223372036854775807) (h:0<n) (h':n≤1000000):ON x n=true∧naJ x n=x % n:=by
 have hn:(n==0)=false:=by simp;omega
 have e:naJ x n=bif decide (Int.tmod x n<0) then nM ((Int.tmod x n)+n) else Int.tmod x n:=by
  unfold naJ zU
  rw[hn]
  rfl
 refine⟨by unfold ON zU;rw[hn];rfl, ?_⟩
 rw[e]
 have h1:=Int.tmod_eq_emod (a:=x) (b:=n)
 have h2:=Int.emod_nonneg x (show n≠0 by omega)
 have h3:=Int.emod_lt_of_pos x h
 by_cases hl:Int.tmod x n<0
 ·rw[decide_eq_true hl,cond_true]
  split at h1
  ·omega
  ·have hna:((n.natAbs:Nat):Int)=n:=by omega
   rw[hna] at h1
   rw[nQ (by omega) (by omega)]
   omega
 ·rw[decide_eq_false hl,cond_false]
  split at h1
  ·omega
  ·have hna:((n.natAbs:Nat):Int)=n:=by omega
   rw[hna] at h1
   omega
def OT (r:nB):Int:=bif tY r.nL then (r.qG - r.Head) % (2*r.nL) else 0
theorem npG (k_:Int→α) (r:nB) (h_r:kc nB.ct r.enc):nbo ke k_ r=k_ (OT r):=by
 have ht:=xG (nB.nCt h_r)
 have hh:=xG (nB.nCp h_r)
 unfold nbo OT
 cases hs:tY r.nL
 ·rfl
 ·have h2:nM (2*r.nL)=2*r.nL∧0<2*r.nL∧2*r.nL≤32:=by
   rcases VM hs with h | h | h | h<;>rw[h]<;>exact⟨rfl,by decide,by decide⟩
  obtain⟨h2,h3,h4⟩:=h2
  obtain⟨a1,a2⟩:=naK ht.1 ht.2 h3 (by omega)
  obtain⟨b1,b2⟩:=naK hh.1 hh.2 h3 (by omega)
  have n1:=Int.emod_nonneg r.qG (show 2*r.nL≠0 by omega)
  have n2:=Int.emod_lt_of_pos r.qG h3
  have m1:=Int.emod_nonneg r.Head (show 2*r.nL≠0 by omega)
  have m2:=Int.emod_lt_of_pos r.Head h3
  have hw:nM (r.qG % (2*r.nL) - r.Head % (2*r.nL))=r.qG % (2*r.nL) - r.Head % (2*r.nL):=nQ (by omega) (by omega)
  obtain⟨c1,c2⟩:=naK (x:=r.qG % (2*r.nL) - r.Head % (2*r.nL)) (by omega) (by omega) h3 (by omega)
  simp only[h2,a1,a2,b1,b2,hw,c1,c2,ng,nm,cond_true,Bool.not_true,cond_false]
  rw[←Int.sub_emod]
def ncN {α:Type} (k_:Int→α) (r:nB):α:=
 bif !(tY r.nL) then k_ 0
 else k_ (bits .and .i64 (nM (r.qG - r.Head)) (nM ((nM (2*r.nL)) - 1)))
theorem nsn {α:Type} (k_:Int→α) (r:nB):ncN k_ r=k_ (OT r):=by
 unfold ncN OT
 cases hs:tY r.nL
 ·rfl
 ·have key:bits .and .i64 (nM (r.qG - r.Head)) (nM ((nM (2*r.nL)) - 1))=(r.qG - r.Head) % (2*r.nL):=by
   rcases VM hs with h | h | h | h<;>rw[h]
   ·exact (and_3 _).trans (by rw[noE];show _=(r.qG - r.Head) % 4;omega)
   ·exact (nCu _).trans (by rw[noE];show _=(r.qG - r.Head) % 8;omega)
   ·exact (nCx _).trans (by rw[noE];show _=(r.qG - r.Head) % 16;omega)
   ·exact (nCy _).trans (by rw[noE];show _=(r.qG - r.Head) % 32;omega)
  simp only[key,Bool.not_true,cond_false,cond_true]
def XZ {α:Type} (k_:Bool→α) (r:nB):α:=
 let z0:Int:=nM ((nM (2*r.nL)) - 1)
 k_ (bif nf r.oG 0 130944 then bif tY r.nL then bif nf r.Head 0 z0 then bif nf r.qG 0 z0 then decide (OT r≤r.nL) else false else false else false else false)
def tx (r:nB):Bool:=XZ id r
theorem nwo {α:Type} (k_:Bool→α) (r:nB):XZ k_ r=k_ (tx r):=by
 rfl
def nxX {α:Type} (k_:Bool→α) (r:nB):α:=
 let z0:Int:=nM ((nM (2*r.nL)) - 1)
 k_ (bif nf r.oG 0 130944 then bif tY r.nL then bif nf r.Head 0 z0 then bif nf r.qG 0 z0 then decide (OT r≤r.nL) else false else false else false else false)
theorem nxW {α:Type} (k_:Bool→α) (r:nB):nxX k_ r=k_ (tx r):=by
 exact rfl
def ndw {α:Type} (k_:Bool→α) (q:nn):α:=
 k_ (bif nf q.oG 0 130944 then bif tY q.nL then nf q.Count 0 (nM ((nM (2*q.nL)) - 1)) else false else false)
def nak (q:nn):Bool:=ndw id q
theorem ntx {α:Type} (k_:Bool→α) (q:nn):ndw k_ q=k_ (nak q):=by
 rfl
def nvk {α:Type} (k_:Bool→α) (q:nn):α:=
 k_ (bif nf q.oG 0 130944 then bif tY q.nL then nf q.Count 0 (nM ((nM (2*q.nL)) - 1)) else false else false)
theorem nvi {α:Type} (k_:Bool→α) (q:nn):nvk k_ q=k_ (nak q):=by
 exact rfl
def ntP {α:Type} (k_:Bool→α) (v:nY):α:=
 k_ (bif decide (1≤v.Count) then bif decide (v.Ub≤v.Count) then true else decide (v.naj≤v.Time) else false)
def due (v:nY):Bool:=ntP id v
theorem nAq {α:Type} (k_:Bool→α) (v:nY):ntP k_ v=k_ (due v):=by
 rfl
def nyd {α:Type} (k_:Bool→α) (v:nY):α:=
 k_ (bif decide (1≤v.Count) then bif decide (v.Ub≤v.Count) then true else decide (v.naj≤v.Time) else false)
theorem nyb {α:Type} (k_:Bool→α) (v:nY):nyd k_ v=k_ (due v):=by
 exact rfl
def nbx {α:Type} (k_:Bool→α) (v:nY):α:=
 let z0:Bool:=bif due v then v.nht== !v.ns3 else v.nht==false
 bif bif !(nf v.Ub 1 64) then true else bif !(nf v.naj 0 64) then true else bif !(nf v.Count 0 1000000) then true else !(nf v.Time 0 1000000) then k_ false
 else k_ (bif decide (0<v.Count) then z0 else bif v.Time==0 then z0 else false)
def ur (v:nY):Bool:=nbx id v
theorem npY {α:Type} (k_:Bool→α) (v:nY):nbx k_ v=k_ (ur v):=by
 exact J5 rfl rfl
def nsE {α:Type} (k_:Bool→α) (v:nY):α:=
 let z0:Bool:=bif due v then v.nht== !v.ns3 else v.nht==false
 bif bif !(nf v.Ub 1 64) then true else bif !(nf v.naj 0 64) then true else bif !(nf v.Count 0 1000000) then true else !(nf v.Time 0 1000000) then k_ false
 else k_ (bif decide (0<v.Count) then z0 else bif v.Time==0 then z0 else false)
theorem nsC {α:Type} (k_:Bool→α) (v:nY):nsE k_ v=k_ (ur v):=by
 exact J5 rfl rfl
def noO {α:Type} (k_:Bool→α) (q:nK):α:=
 bif bif !(tx q.Ring) then true else bif !(nak q.Device) then true else bif !(nak q.Driver) then true else bif q.Device.oG != q.Driver.oG then true else bif q.Device.nL != q.Driver.nL then true else !(nf q.nfA 0 1000000000000) then k_ false
 else bif !q.nfB then k_ (bif bif q.rn.oI.we==0 then bif q.rn.oI.wg==0 then bif q.rn.oI.sQ==0 then bif q.rn.oI.Tos==0 then bif q.rn.oI.Id==0 then bif q.rn.oI.Ttl==0 then bif q.rn.oI.ql==0 then bif q.rn.oI.qK==0 then bif bif q.rn.oI.tU.Kind==0 then bif q.rn.oI.tU.oN==0 then bif q.rn.oI.tU.oM==0 then bif q.rn.oI.tU.Seq==0 then bif q.rn.oI.tU.Ack==0 then bif q.rn.oI.tU.Flags==0 then bif q.rn.oI.tU.tM==0 then bif q.rn.oI.tU.Body==[] then true else false else false else false else false else false else false else false else false then true else false else false else false else false else false else false else false else false else false then bif q.rn.nL==0 then bif q.rn.Count==0 then true else false else false else false)
 else k_ (bif sY q.rn.oI then bif nf q.rn.nL 0 320 then nf q.rn.Count 1 320 else false else false)
def nhu (q:nK):Bool:=noO id q
theorem nzM {α:Type} (k_:Bool→α) (q:nK):noO k_ q=k_ (nhu q):=by
 exact J5 rfl (J5 rfl rfl)
def nAa {α:Type} (k_:Bool→α) (q:nK):α:=
 bif bif !(tx q.Ring) then true else bif !(nak q.Device) then true else bif !(nak q.Driver) then true else bif q.Device.oG != q.Driver.oG then true else bif q.Device.nL != q.Driver.nL then true else !(nf q.nfA 0 1000000000000) then k_ false
 else bif !q.nfB then k_ (bif bif q.rn.oI.we==0 then bif q.rn.oI.wg==0 then bif q.rn.oI.sQ==0 then bif q.rn.oI.Tos==0 then bif q.rn.oI.Id==0 then bif q.rn.oI.Ttl==0 then bif q.rn.oI.ql==0 then bif q.rn.oI.qK==0 then bif bif q.rn.oI.tU.Kind==0 then bif q.rn.oI.tU.oN==0 then bif q.rn.oI.tU.oM==0 then bif q.rn.oI.tU.Seq==0 then bif q.rn.oI.tU.Ack==0 then bif q.rn.oI.tU.Flags==0 then bif q.rn.oI.tU.tM==0 then bif q.rn.oI.tU.Body==[] then true else false else false else false else false else false else false else false else false then true else false else false else false else false else false else false else false else false else false then bif q.rn.nL==0 then bif q.rn.Count==0 then true else false else false else false)
 else k_ (bif sY q.rn.oI then bif nf q.rn.nL 0 320 then nf q.rn.Count 1 320 else false else false)
theorem nz9 {α:Type} (k_:Bool→α) (q:nK):nAa k_ q=k_ (nhu q):=by
 exact J5 rfl (J5 rfl rfl)
def X1 {α:Type} (k_:Bool→α) (r:pf):α:=
 let z0:Bool:=bif !(nf r.ql 0 4294967295) then true else !(nf r.njF 0 32)
 let z1:Bool:=bif r.Action==1 then r.Queue==0 else false
 bif bif !(nf r.Priority 0 1000) then true else bif r.Kind != 0 then bif r.Kind != 6 then bif r.Kind != 17 then true else z0 else z0 else z0 then k_ false
 else bif bif decide (r.Qx<0) then true else bif decide (r.T_<r.Qx) then true else bif decide (65535<r.T_) then true else !(nf r.sQ (-2) 4095) then k_ false
 else k_ (bif r.Action==0 then bif nf r.Queue 0 3 then true else z1 else z1)
def OU (r:pf):Bool:=X1 id r
theorem nwr {α:Type} (k_:Bool→α) (r:pf):X1 k_ r=k_ (OU r):=by
 exact J5 rfl (J5 rfl rfl)
def nx2 {α:Type} (k_:Bool→α) (r:pf):α:=
 let z0:Bool:=bif !(nf r.ql 0 4294967295) then true else !(nf r.njF 0 32)
 let z1:Bool:=bif r.Action==1 then r.Queue==0 else false
 bif bif !(nf r.Priority 0 1000) then true else bif r.Kind != 0 then bif r.Kind != 6 then bif r.Kind != 17 then true else z0 else z0 else z0 then k_ false
 else bif bif decide (r.Qx<0) then true else bif decide (r.T_<r.Qx) then true else bif decide (65535<r.T_) then true else !(nf r.sQ (-2) 4095) then k_ false
 else k_ (bif r.Action==0 then bif nf r.Queue 0 3 then true else z1 else z1)
theorem nx0 {α:Type} (k_:Bool→α) (r:pf):nx2 k_ r=k_ (OU r):=by
 exact J5 rfl (J5 rfl rfl)
def Nz (k_:Bool→α) (list_ x:Rows) (nX:Int) (oD:Int→α) (oc:Int):α:=
 bif decide (oc<nX) then
  bif Eb true (idx oc x) then
   bif !(OU (pf.nd (nth x (Int.toNat oc)) 0)) then k_ false
   else oD (nM (oc+1))
  else ke
 else k_ (decide (len list_≤12))
def Ny (k_:Bool→α) (N:Nat) (list_ x:Rows) (nX:Int) (m_:Nat):Int→α:=
 Nat.rec (motive:=fun _=>Int→α) (fun _=>ke) (fun _ oD=>Nz ke k_ list_ x nX oD) m_
theorem WD (k_:Bool→α) (N:Nat) (list_ x:Rows) (nX:Int) (m_:Nat):Ny ke k_ N list_ x nX (m_+1)=Nz ke k_ list_ x nX (Ny ke k_ N list_ x nX m_):=rfl
def Pp {α:Type} (ke:α) (k_:Bool→α) (l0:Rows→Int→Int→α) (list_:Rows):α:=
 l0 list_ (len list_) 0
def ndA (k_:Bool→α) (N:Nat) (list_:Rows):α:=Pp ke k_ (fun x nX=>Ny ke k_ N list_ x nX N) list_
def TU (list_:Rows):Bool:=bif list_.all (fun r=>OU (pf.nd r 0)) then decide (len list_≤12) else false
theorem ntE (k_:Bool→α) (list_:Rows) (pE:G1 (.sl [.i,.i,.i,.i,.i,.i,.i,.i,.i]) (.sl list_)):∃N,ndA ke k_ N list_=k_ (TU list_):=by
 obtain⟨hl,_⟩:=oh pE
 refine⟨list_.length+1, ?_⟩
 unfold ndA Pp
 refine (qS list_ (Ny ke k_ (list_.length+1) list_ list_ (len list_)) (fun i r c=>bif !(OU (pf.nd r 0)) then k_ false else c) (k_ (decide (len list_≤12))) ?_ ?_).trans ?_
 ·intro n i h
  rw[WD]
  simp only[Nz,oL h,nT h,oa h hl,Int.toNat_natCast,ng,nm,cond_true]
 ·intro n
  rw[WD]
  simp only[Nz,nN,cond_false]
 ·refine (Rw (fun r=>OU (pf.nd r 0)) _ _ list_ 0).trans ?_
  exact J5 rfl rfl
def N5 (k_:Bool→α) (list_:Rows) (oD:Int→α) (k:Int):α:=
 bif decide (k<len list_) then
  bif Eb true (idx k list_) then
   bif !(OU (pf.nd (nth list_ (Int.toNat k)) 0)) then k_ false
   else oD (nM (k+1))
  else ke
 else k_ (decide (len list_≤12))
def N4 (k_:Bool→α) (N:Nat) (list_:Rows) (m_:Nat):Int→α:=
 Nat.rec (motive:=fun _=>Int→α) (fun _=>ke) (fun _ oD=>N5 ke k_ list_ oD) m_
theorem XL (k_:Bool→α) (N:Nat) (list_:Rows) (m_:Nat):N4 ke k_ N list_ (m_+1)=N5 ke k_ list_ (N4 ke k_ N list_ m_):=rfl
def VV {α:Type} (ke:α) (k_:Bool→α) (l0:Int→α) (list_:Rows):α:=
 l0 0
def neT (k_:Bool→α) (N:Nat) (list_:Rows):α:=VV ke k_ (N4 ke k_ N list_ N) list_
theorem nvq (k_:Bool→α) (list_:Rows) (pE:G1 (.sl [.i,.i,.i,.i,.i,.i,.i,.i,.i]) (.sl list_)):∃N,neT ke k_ N list_=k_ (TU list_):=by
 obtain⟨hl,_⟩:=oh pE
 refine⟨list_.length+1, ?_⟩
 unfold neT VV
 refine (qS list_ (N4 ke k_ (list_.length+1) list_) (fun i r c=>bif !(OU (pf.nd r 0)) then k_ false else c) (k_ (decide (len list_≤12))) ?_ ?_).trans ?_
 ·intro n i h
  rw[XL]
  simp only[N5,oL h,nT h,oa h hl,Int.toNat_natCast,ng,nm,cond_true]
 ·intro n
  rw[XL]
  simp only[N5,nN,cond_false]
 ·refine (Rw (fun r=>OU (pf.nd r 0)) _ _ list_ 0).trans ?_
  exact J5 rfl rfl
def nbB (k_:Rows→α) (l:Rows):α:=
 bif Eb true (oY 8 [] l) then
  k_ l
 else ke
theorem np4 (k_:Rows→α) (l:Rows) (aJ:sm l=true):nbB ke k_ l=k_ (oE l):=by
 unfold nbB
 rw[qA aJ (show 8≤8388608 by omega)]
 rfl
def nbC (k_:nv→α) (p:nv):α:=
 bif Eb true (sm p.oB) then
  k_ (⟨p.oG,p.nL,p.Count,oE p.oB⟩:nv)
 else ke
def uW (p:nv):Bool:=sm p.oB
theorem np6 (k_:nv→α) (p:nv) (aJ:uW p=true):nbC ke k_ p=k_ (oE p):=by
 have h:sm p.oB=true:=aJ
 unfold nbC
 simp only[h,ng,cond_true]
 rfl
def nfe (k_:nv→α) (p:nv):α:=
 bif Eb true (oY 8 [] p.oB) then
  k_ p
 else ke
theorem nvS (k_:nv→α) (p:nv) (aJ:uW p=true):nfe ke k_ p=k_ (oE p):=by
 have h:sm p.oB=true:=aJ
 unfold nfe
 rw[qA h (show 8≤8388608 by omega)]
 rfl
def Pm (k_:Bool→α) (x:Rows) (nX NX:Int) (oD:Int→Rows→α) (oc:Int) (seen:Rows):α:=
 let z0:Bool:= !(nf (rI (nth x (Int.toNat oc)) 0) 0 (nM (NX - 1)))
 let z1:Nat:=Int.toNat (rI (nth x (Int.toNat oc)) 0)
 let z2:Bool:=Eb (Eb true (idx (rI (nth x (Int.toNat oc)) 0) seen)) (inl z1 seen)
 let z3:List DC:=nth seen z1
 bif decide (oc<nX) then
  bif Eb true (idx oc x) then
   bif LV z0 true z2 then
    bif bif z0 then true else rB z3 0 then k_ false
    else bif z2 then
      oD (nM (oc+1)) (List.set seen z1 (bQ z3 0 [.bool true]))
     else ke
   else ke
  else ke
 else k_ true
def Pk (k_:Bool→α) (N:Nat) (x:Rows) (nX NX:Int) (m_:Nat):Int→Rows→α:=
 Nat.rec (motive:=fun _=>Int→Rows→α) (fun _ _=>ke) (fun _ oD=>Pm ke k_ x nX NX oD) m_
theorem YB (k_:Bool→α) (N:Nat) (x:Rows) (nX NX:Int) (m_:Nat):Pk ke k_ N x nX NX (m_+1)=Pm ke k_ x nX NX (Pk ke k_ N x nX NX m_):=rfl
def RB (k_:Bool→α) (l0:Rows→Int→Int→Int→Rows→α) (p:nv):α:=
 bif bif !(nf p.oG 0 130944) then true else bif !(nf p.nL 1 512) then true else !(nf p.Count 0 16) then k_ false
 else bif Eb true (yB 1 p.Count p.Count) then
   l0 p.oB (len p.oB) p.Count 0 (List.replicate (Int.toNat p.Count) ([.bool false]:List DC))
  else ke
def ngE (k_:Bool→α) (N:Nat) (p:nv):α:=RB ke k_ (fun x nX NX=>Pk ke k_ N x nX NX N) p
def Qj {α σ:Type} (P:List DC→σ→Bool) (f:List DC→σ→σ) (x:α) (fin:σ→α):Rows→σ→α
 | [],s=>fin s
 | r::rs,s=>bif P r s then x else Qj P f x fin rs (f r s)
theorem nhl {α σ:Type} (list:Rows) (L:Nat→Int→σ→α) (P:List DC→σ→Bool) (f:List DC→σ→σ) (x:α) (fin:σ→α) (I:Nat→σ→Prop) (hI:∀i s,i<list.length→I i s→P (nth list i) s=false→I (i+1) (f (nth list i) s))
  (hs:∀n i s,i<list.length→I i s→L (n+1) (i:Int) s=bif P (nth list i) s then x else L n ((i:Int)+1) (f (nth list i) s))
  (hz:∀n s,I list.length s→L (n+1) (list.length:Int) s=fin s):∀(m i:Nat) (s:σ),i+m=list.length→I i s→L (m+1) (i:Int) s=Qj P f x fin (list.drop i) s
 | 0,i,s,h,hi=>by
  have:i=list.length:=by omega
  subst this
  rw[hz 0 s hi,List.drop_length]
  rfl
 | m+1,i,s,h,hi=>by
  have cn:i<list.length:=by omega
  rw[hs (m+1) i s cn hi,List.drop_eq_getElem_cons cn]
  have hn:nth list i=list[i]:=by simp [nth,List.getD_eq_getElem?_getD,cn]
  show _=bif P list[i] s then x else Qj P f x fin (list.drop (i+1)) (f list[i] s)
  rw[←hn]
  cases hp:P (nth list i) s
  ·rw[cond_false,cond_false]
   have:=nhl list L P f x fin I hI hs hz m (i+1) (f (nth list i) s) (by omega) (hI i s cn hi hp)
   rw[←this]
   rfl
  ·rfl
theorem ZZ {α σ:Type} (list:Rows) (L:Nat→Int→σ→α) (P:List DC→σ→Bool) (f:List DC→σ→σ) (x:α) (fin:σ→α) (I:Nat→σ→Prop) (hI:∀i s,i<list.length→I i s→P (nth list i) s=false→I (i+1) (f (nth list i) s))
  (hs:∀n i s,i<list.length→I i s→L (n+1) (i:Int) s=bif P (nth list i) s then x else L n ((i:Int)+1) (f (nth list i) s))
  (hz:∀n s,I list.length s→L (n+1) (list.length:Int) s=fin s) (s:σ) (h:I 0 s):L (list.length+1) 0 s=Qj P f x fin list s:=
 nhl list L P f x fin I hI hs hz list.length 0 s (by omega) h
theorem ntd {α β σ:Type} (k:β→α) (P:List DC→σ→Bool) (f:List DC→σ→σ) {x:β} (fin:σ→β):∀(list:Rows) (s:σ),Qj P f (k x) (fun s=>k (fin s)) list s=k (Qj P f x fin list s)
 | [],s=>rfl
 | r::rs,s=>by
  simp only[Qj]
  cases P r s
  ·exact ntd k P f fin rs _
  ·rfl
theorem cond_congr {α:Type} {c d:Bool} {x y u v:α} (h:c=d) (h1:c=true→x=u) (h2:c=false→y=v):(bif c then x else y)=(bif d then u else v):=by
 subst h
 cases c
 ·exact h2 rfl
 ·exact h1 rfl
def nzW (n:Int) (r:List DC) (s:Rows):Bool:=bif !(nf (rI r 0) 0 (n - 1)) then true else rB (nth s (Int.toNat (rI r 0))) 0
def nuY (r:List DC) (s:Rows):Rows:=List.set s (Int.toNat (rI r 0)) (bQ (nth s (Int.toNat (rI r 0))) 0 [.bool true])
theorem nlE (r:List DC) (s:Rows):(nuY r s).length=s.length:=by simp [nuY]
def qB (p:nv):Bool:=bif bif !(nf p.oG 0 130944) then true else bif !(nf p.nL 1 512) then true else !(nf p.Count 0 16) then false
 else Qj (nzW p.Count) nuY false (fun _=>true) p.oB (List.replicate (Int.toNat p.Count) [.bool false])
theorem nwl (k_:Bool→α) (p:nv) (h_p:kc nv.ct p.enc):∃N,ngE ke k_ N p=k_ (qB p):=by
 obtain⟨hl,hw⟩:=oh (nv.nsV h_p)
 refine⟨p.oB.length+1, ?_⟩
 unfold ngE RB qB
 refine pQ (fun _=>rfl) (fun hg=> ?_)
 have hc:0≤p.Count∧p.Count≤16:=by
  cases h1:nf p.oG 0 130944
  ·rw[h1] at hg;cases hg
  cases h2:nf p.nL 1 512
  ·rw[h1,h2] at hg;cases hg
  cases h3:nf p.Count 0 16
  ·rw[h1,h2,h3] at hg;cases hg
  exact nS.1 h3
 have hmk:yB 1 p.Count p.Count=true:=by
  simp only[yB,Bool.and_eq_true,decide_eq_true_eq]
  omega
 rw[hmk,ng,cond_true]
 refine (ZZ p.oB (Pk ke k_ (p.oB.length+1) p.oB (len p.oB) p.Count) (nzW p.Count) nuY (k_ false) (fun _=>k_ true) (fun _ s=>(s.length:Int)=p.Count) (fun i s _ h _=> ?_) ?_ ?_ (List.replicate (Int.toNat p.Count) [.bool false]) ?_).trans ?_
 ·show ((nuY (nth p.oB i) s).length:Int)=p.Count
  rw[nlE,h]
 ·intro n i s h hs
  rw[YB]
  have hw1:nM (p.Count - 1)=p.Count - 1:=nQ (by omega) (by omega)
  have hx:nf (rI (nth p.oB i) 0) 0 (p.Count - 1)=true→idx (rI (nth p.oB i) 0) s=true∧inl (Int.toNat (rI (nth p.oB i) 0)) s=true:=by
   intro hb
   have:=nS.1 hb
   refine⟨?_, ?_⟩
   ·simp only[idx,Bool.and_eq_true,decide_eq_true_eq];omega
   ·simp only[inl,decide_eq_true_eq];omega
  unfold nzW
  simp only[Pm,oL h,nT h,oa h hl,Int.toNat_natCast,ng,nm,cond_true,hw1]
  cases hb:nf (rI (nth p.oB i) 0) 0 (p.Count - 1)
  ·rw[Z0 (g:= !false) (x:=true) (fun _=>rfl) (fun h=>by cases h)]
   rfl
  ·obtain⟨x1,x2⟩:=hx hb
   rw[x1,x2]
   rfl
 ·intro n s _
  rw[YB]
  simp only[Pm,nN,cond_false]
 ·simp only[List.length_replicate];omega
 ·exact ntd k_ _ _ (fun _=>true) p.oB _
def Qa (k_:Bool→α) (NX:Int) (Ql:Rows) (oD:Int→Rows→α) (k:Int) (seen:Rows):α:=
 let z0:Bool:= !(nf (rI (nth Ql (Int.toNat k)) 0) 0 (nM (NX - 1)))
 let z1:Bool:=idx (rI (nth Ql (Int.toNat k)) 0) seen
 let z2:Nat:=Int.toNat (rI (nth Ql (Int.toNat k)) 0)
 let z3:Bool:=inl z2 seen
 let z4:List DC:=nth seen z2
 bif decide (k<len Ql) then
  bif LV z0 (Eb true (idx k Ql)) (Eb (Eb (Eb (Eb true (idx k Ql)) (idx k Ql)) z1) z3) then
   bif bif z0 then true else rB z4 0 then k_ false
   else bif Eb (Eb (Eb true (idx k Ql)) z1) z3 then
     oD (nM (k+1)) (List.set seen z2 (bQ z4 0 [.bool true]))
    else ke
  else ke
 else k_ true
def P_ (k_:Bool→α) (N:Nat) (NX:Int) (Ql:Rows) (m_:Nat):Int→Rows→α:=
 Nat.rec (motive:=fun _=>Int→Rows→α) (fun _ _=>ke) (fun _ oD=>Qa ke k_ NX Ql oD) m_
theorem Z7 (k_:Bool→α) (N:Nat) (NX:Int) (Ql:Rows) (m_:Nat):P_ ke k_ N NX Ql (m_+1)=Qa ke k_ NX Ql (P_ ke k_ N NX Ql m_):=rfl
def RO (k_:Bool→α) (l0:Int→Rows→Int→Rows→α) (p:nv):α:=
 bif bif !(nf p.oG 0 130944) then true else bif !(nf p.nL 1 512) then true else !(nf p.Count 0 16) then k_ false
 else bif Eb true (yB 1 p.Count p.Count) then
   l0 p.Count p.oB 0 (List.replicate (Int.toNat p.Count) ([.bool false]:List DC))
  else ke
def nhq (k_:Bool→α) (N:Nat) (p:nv):α:=RO ke k_ (fun NX Ql=>P_ ke k_ N NX Ql N) p
theorem nxT (k_:Bool→α) (p:nv) (h_p:kc nv.ct p.enc):∃N,nhq ke k_ N p=k_ (qB p):=by
 obtain⟨hl,hw⟩:=oh (nv.nsV h_p)
 refine⟨p.oB.length+1, ?_⟩
 unfold nhq RO qB
 refine pQ (fun _=>rfl) (fun hg=> ?_)
 have hc:0≤p.Count∧p.Count≤16:=by
  cases h1:nf p.oG 0 130944
  ·rw[h1] at hg;cases hg
  cases h2:nf p.nL 1 512
  ·rw[h1,h2] at hg;cases hg
  cases h3:nf p.Count 0 16
  ·rw[h1,h2,h3] at hg;cases hg
  exact nS.1 h3
 have hmk:yB 1 p.Count p.Count=true:=by
  simp only[yB,Bool.and_eq_true,decide_eq_true_eq]
  omega
 rw[hmk,ng,cond_true]
 refine (ZZ p.oB (P_ ke k_ (p.oB.length+1) p.Count p.oB) (nzW p.Count) nuY (k_ false) (fun _=>k_ true) (fun _ s=>(s.length:Int)=p.Count) (fun i s _ h _=> ?_) ?_ ?_ (List.replicate (Int.toNat p.Count) [.bool false]) ?_).trans ?_
 ·show ((nuY (nth p.oB i) s).length:Int)=p.Count
  rw[nlE,h]
 ·intro n i s h hs
  rw[Z7]
  have hw1:nM (p.Count - 1)=p.Count - 1:=nQ (by omega) (by omega)
  have hx:nf (rI (nth p.oB i) 0) 0 (p.Count - 1)=true→idx (rI (nth p.oB i) 0) s=true∧inl (Int.toNat (rI (nth p.oB i) 0)) s=true:=by
   intro hb
   have:=nS.1 hb
   refine⟨?_, ?_⟩
   ·simp only[idx,Bool.and_eq_true,decide_eq_true_eq];omega
   ·simp only[inl,decide_eq_true_eq];omega
  unfold nzW
  simp only[Qa,oL h,nT h,oa h hl,Int.toNat_natCast,ng,nm,cond_true,hw1]
  cases hb:nf (rI (nth p.oB i) 0) 0 (p.Count - 1)
  ·rw[Z0 (g:= !false) (x:=true) (fun _=>rfl) (fun h=>by cases h)]
   rfl
  ·obtain⟨x1,x2⟩:=hx hb
   rw[x1,x2]
   rfl
 ·intro n s _
  rw[Z7]
  simp only[Qa,nN,cond_false]
 ·simp only[List.length_replicate];omega
 ·exact ntd k_ _ _ (fun _=>true) p.oB _
def Un (k_:nv→Bool→α) (p:nv) (list_:Rows):α:=
 let z0:nv:=(⟨(oE p).oG,(oE p).nL,(oE p).Count,((oE p).oB)++list_⟩:nv)
 bif Eb true (uW p) then
  bif Eb true (oY 8 ((oE p).oB) list_) then
   bif bif !(qB p) then true else !(qB z0) then
    bif Eb true (uW p) then
     k_ (oE p) false
    else ke
   else k_ z0 true
  else ke
 else ke
def Uf (p:nv) (list_:Rows):Bool:=sm p.oB && decide (p.oB.length+list_.length≤134217728)
theorem nzC {p:nv} {list_:Rows} (h:Uf p list_=true):sm p.oB=true∧p.oB.length+list_.length≤134217728:=by
 simpa [Uf] using h
def qp (p:nv) (list_:Rows):nv×Bool:=bif bif !(qB p) then true else !(qB (⟨p.oG,p.nL,p.Count,p.oB++list_⟩:nv)) then (p,false) else ((⟨p.oG,p.nL,p.Count,p.oB++list_⟩:nv),true)
theorem nhC (k_:nv→Bool→α) (p:nv) (list_:Rows) (aJ:Uf p list_=true):Un ke k_ p list_=k_ (qp p list_).1 (qp p list_).2:=by
 have h:Uf p list_=true:=aJ
 obtain⟨h1,h2⟩:=nzC h
 have hp:uW p=true:=h1
 unfold Un qp
 simp only[oE,hp,ry h2 (show 8≤1048576 by omega),ng,cond_true]
 generalize (bif !(qB p) then true else !(qB (⟨p.oG,p.nL,p.Count,p.oB++list_⟩:nv)))=b
 cases b<;>rfl
def VQ (k_:nv→Bool→α) (p:nv) (list_:Rows):α:=
 let z0:nv:=(⟨(oE p).oG,(oE p).nL,(oE p).Count,((oE p).oB)++list_⟩:nv)
 bif Eb true (uW p) then
  bif Eb true (oY 8 ((oE p).oB) list_) then
   bif bif !(qB p) then true else !(qB z0) then
    bif Eb true (uW p) then
     k_ (oE p) false
    else ke
   else k_ z0 true
  else ke
 else ke
theorem ni6 (k_:nv→Bool→α) (p:nv) (list_:Rows) (aJ:Uf p list_=true):VQ ke k_ p list_=k_ (qp p list_).1 (qp p list_).2:=by
 have h:Uf p list_=true:=aJ
 obtain⟨h1,h2⟩:=nzC h
 have hp:uW p=true:=h1
 unfold VQ qp
 simp only[oE,hp,ry h2 (show 8≤1048576 by omega),ng,cond_true]
 generalize (bif !(qB p) then true else !(qB (⟨p.oG,p.nL,p.Count,p.oB++list_⟩:nv)))=b
 cases b<;>rfl
def vr (k_:Int→Rows→α) (a:na) (k:Int):α:=
 bif Eb true (OM 1 a.nE k) then
  k_ ((ue a.nE k).1) ((ue a.nE k).2)
 else ke
def Nd (a:na) (k:Int):Bool:=vr false (fun _ _=>true) a k
def wZ (a:na) (k:Int):Int×Rows:=(vr none (fun r0 r1=>some (r0,r1)) a k).getD (0,[])
theorem nkY (k_:Int→Rows→α) (a:na) (k:Int) (aJ:Nd a k=true):vr ke k_ a k=k_ (wZ a k).1 (wZ a k).2:=by
 exact tD (K:=fun r:Int×Rows=>k_ r.1 r.2) (oe (fun _=>⟨_,rfl,rfl⟩)) aJ
def vo (k_:Int→α) (a:na) (k:Int):α:=
 bif Eb true (Qm rU 1 a.nE k) then
  bif decide (ub a.nE k<0) then k_ (-1)
  else k_ (ub a.nE k)
 else ke
def zL (a:na) (k:Int):Bool:=vo false (fun _=>true) a k
def Od (a:na) (k:Int):Int:=(vo none (fun r0=>some (r0)) a k).getD 0
theorem nkH (k_:Int→α) (a:na) (k:Int) (aJ:zL a k=true):vo ke k_ a k=k_ (Od a k):=by
 exact tD (K:=fun r:Int=>k_ r) (oe (qJ pz pz)) aJ
def xq (k_:Int→Rows→α) (a:nv) (k:Int):α:=
 bif Eb true (OM 1 a.oB k) then
  k_ ((rv a.oB k).1) ((rv a.oB k).2)
 else ke
def R4 (a:nv) (k:Int):Bool:=xq false (fun _ _=>true) a k
def PQ (a:nv) (k:Int):Int×Rows:=(xq none (fun r0 r1=>some (r0,r1)) a k).getD (0,[])
theorem nqW (k_:Int→Rows→α) (a:nv) (k:Int) (aJ:R4 a k=true):xq ke k_ a k=k_ (PQ a k).1 (PQ a k).2:=by
 exact tD (K:=fun r:Int×Rows=>k_ r.1 r.2) (oe (fun _=>⟨_,rfl,rfl⟩)) aJ
def xo (k_:Int→α) (a:nv) (k:Int):α:=
 bif Eb true (Qm rk 1 a.oB k) then
  bif decide (qX a.oB k<0) then k_ (-1)
  else k_ (qX a.oB k)
 else ke
def RR (a:nv) (k:Int):Bool:=xo false (fun _=>true) a k
def Ui (a:nv) (k:Int):Int:=(xo none (fun r0=>some (r0)) a k).getD 0
theorem nqN (k_:Int→α) (a:nv) (k:Int) (aJ:RR a k=true):xo ke k_ a k=k_ (Ui a k):=by
 exact tD (K:=fun r:Int=>k_ r) (oe (qJ pz pz)) aJ
def vq (k_:Int→Rows→α) (a:nC) (k:Int):α:=
 bif Eb true (OM 1 a.pH k) then
  k_ ((rv a.pH k).1) ((rv a.pH k).2)
 else ke
def Nc (a:nC) (k:Int):Bool:=vq false (fun _ _=>true) a k
def Ox (a:nC) (k:Int):Int×Rows:=(vq none (fun r0 r1=>some (r0,r1)) a k).getD (0,[])
theorem nkU (k_:Int→Rows→α) (a:nC) (k:Int) (aJ:Nc a k=true):vq ke k_ a k=k_ (Ox a k).1 (Ox a k).2:=by
 exact tD (K:=fun r:Int×Rows=>k_ r.1 r.2) (oe (fun _=>⟨_,rfl,rfl⟩)) aJ
def vn (k_:Int→α) (a:nC) (k:Int):α:=
 bif Eb true (Qm rk 1 a.pH k) then
  bif decide (qX a.pH k<0) then k_ (-1)
  else k_ (qX a.pH k)
 else ke
def zJ (a:nC) (k:Int):Bool:=vn false (fun _=>true) a k
def Uh (a:nC) (k:Int):Int:=(vn none (fun r0=>some (r0)) a k).getD 0
theorem nkD (k_:Int→α) (a:nC) (k:Int) (aJ:zJ a k=true):vn ke k_ a k=k_ (Uh a k):=by
 exact tD (K:=fun r:Int=>k_ r) (oe (qJ pz pz)) aJ
def tA (k_:Int→Rows→α) (a:ni) (k:Int):α:=
 bif Eb true (OM 7 a.nF k) then
  k_ ((Rg a.nF k).1) ((Rg a.nF k).2)
 else ke
def wy (a:ni) (k:Int):Bool:=tA false (fun _ _=>true) a k
def vN (a:ni) (k:Int):Int×Rows:=(tA none (fun r0 r1=>some (r0,r1)) a k).getD (0,[])
theorem nd3 (k_:Int→Rows→α) (a:ni) (k:Int) (aJ:wy a k=true):tA ke k_ a k=k_ (vN a k).1 (vN a k).2:=by
 exact tD (K:=fun r:Int×Rows=>k_ r.1 r.2) (oe (fun _=>⟨_,rfl,rfl⟩)) aJ
def tz (k_:Int→α) (a:ni) (k:Int):α:=
 bif Eb true (Qm naq 7 a.nF k) then
  bif decide (TZ a.nF k<0) then k_ (-1)
  else k_ (TZ a.nF k)
 else ke
def wj (a:ni) (k:Int):Bool:=tz false (fun _=>true) a k
def zK (a:ni) (k:Int):Int:=(tz none (fun r0=>some (r0)) a k).getD 0
theorem ndX (k_:Int→α) (a:ni) (k:Int) (aJ:wj a k=true):tz ke k_ a k=k_ (zK a k):=by
 exact tD (K:=fun r:Int=>k_ r) (oe (qJ pz pz)) aJ
def vt (k_:Int→Rows→α) (a:nG) (k:Int):α:=
 bif Eb true (OM 1 a.Table k) then
  k_ ((rv a.Table k).1) ((rv a.Table k).2)
 else ke
def Nf (a:nG) (k:Int):Bool:=vt false (fun _ _=>true) a k
def Oy (a:nG) (k:Int):Int×Rows:=(vt none (fun r0 r1=>some (r0,r1)) a k).getD (0,[])
theorem nk6 (k_:Int→Rows→α) (a:nG) (k:Int) (aJ:Nf a k=true):vt ke k_ a k=k_ (Oy a k).1 (Oy a k).2:=by
 exact tD (K:=fun r:Int×Rows=>k_ r.1 r.2) (oe (fun _=>⟨_,rfl,rfl⟩)) aJ
def vp (k_:Int→α) (a:nG) (k:Int):α:=
 bif Eb true (Qm rk 1 a.Table k) then
  bif decide (qX a.Table k<0) then k_ (-1)
  else k_ (qX a.Table k)
 else ke
def zM (a:nG) (k:Int):Bool:=vp false (fun _=>true) a k
def Uj (a:nG) (k:Int):Int:=(vp none (fun r0=>some (r0)) a k).getD 0
theorem nkP (k_:Int→α) (a:nG) (k:Int) (aJ:zM a k=true):vp ke k_ a k=k_ (Uj a k):=by
 exact tD (K:=fun r:Int=>k_ r) (oe (qJ pz pz)) aJ
def uC (k_:Int→Rows→Rows→α) (a:nh) (k:Int):α:=
 let z0:Int×Rows:=zg a.nr ((PQ a.nI k).1)
 bif Eb true (R4 a.nI k) then
  bif Eb true (yd rH Si a.nr ((PQ a.nI k).1)) then
   k_ z0.1 ((PQ a.nI k).2) z0.2
  else ke
 else ke
def yD (a:nh) (k:Int):Bool:=uC false (fun _ _ _=>true) a k
def vv (a:nh) (k:Int):Int×Rows×Rows:=(uC none (fun r0 r1 r2=>some (r0,r1,r2)) a k).getD (0,[],[])
theorem niE (k_:Int→Rows→Rows→α) (a:nh) (k:Int) (aJ:yD a k=true):uC ke k_ a k=k_ (vv a k).1 (vv a k).2.1 (vv a k).2.2:=by
 exact tD (K:=fun r:Int×Rows×Rows=>k_ r.1 r.2.1 r.2.2) (oe (oe (fun _=>⟨_,rfl,rfl⟩))) aJ
def uB (k_:Int→α) (a:nh) (k:Int):α:=
 let z0:Int:=Yx a.nr (Ui a.nI k)
 bif Eb true (RR a.nI k) then
  bif decide (Ui a.nI k<0) then k_ (-1)
  else bif Eb true (nfG a.nr (Ui a.nI k)) then
    bif decide (z0<0) then k_ (-1)
    else k_ z0
   else ke
 else ke
def yq (a:nh) (k:Int):Bool:=uB false (fun _=>true) a k
def RT (a:nh) (k:Int):Int:=(uB none (fun r0=>some (r0)) a k).getD 0
theorem nit (k_:Int→α) (a:nh) (k:Int) (aJ:yq a k=true):uB ke k_ a k=k_ (RT a k):=by
 exact tD (K:=fun r:Int=>k_ r) (oe (qJ pz (oe (qJ pz pz)))) aJ
def tX (k_:Int→Rows→Rows→Rows→α) (a:nk) (k:Int):α:=
 let z0:Int×Rows:=vN a.Table ((OJ a.oO k).1)
 let z1:Int×Rows:=Oy a.oF z0.1
 bif Eb true (OM 9 a.oO k) then
  bif Eb true (wy a.Table ((OJ a.oO k).1)) then
   bif Eb true (Nf a.oF z0.1) then
    k_ z1.1 ((OJ a.oO k).2) z0.2 z1.2
   else ke
  else ke
 else ke
def xr (a:nk) (k:Int):Bool:=tX false (fun _ _ _ _=>true) a k
def sL (a:nk) (k:Int):Int×Rows×Rows×Rows:=(tX none (fun r0 r1 r2 r3=>some (r0,r1,r2,r3)) a k).getD (0,[],[],[])
theorem ngk (k_:Int→Rows→Rows→Rows→α) (a:nk) (k:Int) (aJ:xr a k=true):tX ke k_ a k=k_ (sL a k).1 (sL a k).2.1 (sL a k).2.2.1 (sL a k).2.2.2:=by
 exact tD (K:=fun r:Int×Rows×Rows×Rows=>k_ r.1 r.2.1 r.2.2.1 r.2.2.2) (oe (oe (oe (fun _=>⟨_,rfl,rfl⟩)))) aJ
def tW (k_:Int→α) (a:nk) (k:Int):α:=
 let z0:Int:=zK a.Table (QA a.oO k)
 let z1:Int:=Uj a.oF z0
 bif Eb true (Qm nap 9 a.oO k) then
  bif decide (QA a.oO k<0) then k_ (-1)
  else bif Eb true (wj a.Table (QA a.oO k)) then
    bif decide (z0<0) then k_ (-1)
    else bif Eb true (zM a.oF z0) then
      bif decide (z1<0) then k_ (-1)
      else k_ z1
     else ke
   else ke
 else ke
def xi (a:nk) (k:Int):Bool:=tW false (fun _=>true) a k
def Pa (a:nk) (k:Int):Int:=(tW none (fun r0=>some (r0)) a k).getD 0
theorem nf9 (k_:Int→α) (a:nk) (k:Int) (aJ:xi a k=true):tW ke k_ a k=k_ (Pa a k):=by
 exact tD (K:=fun r:Int=>k_ r) (oe (qJ pz (oe (qJ pz (oe (qJ pz pz)))))) aJ
def xp (k_:Int→Rows→Rows→Rows→Rows→Rows→Rows→Rows→Rows→Rows→Rows→Rows→Rows→Rows→Rows→Rows→Rows→α) (a:ny) (k:Int):α:=
 let z0:Int×Rows:=zd a.Maps ((wZ a.ov k).1)
 let z1:Int×Rows×Rows:=vv a.Tx z0.1
 let z2:Int:=z1.1
 let z3:Int×Rows:=zf a.Rx z2
 let z4:Int:=z3.1
 let z5:Int×Rows:=ze a.ot z4
 let z6:Int:=z5.1
 let z7:Int×Rows:=OL a.og z6
 let z8:Int:=z7.1
 let z9:Int×Rows:=Rf a.pd z8
 let z10:Int:=z9.1
 let z11:Int×Rows:=Ox a.Filter z10
 let z12:Int:=z11.1
 let z13:Int×Rows×Rows×Rows:=sL a.nz z12
 let z14:Int:=z13.1
 let z15:Int×Rows:=OK a.pG z14
 let z16:Int:=z15.1
 let z17:Int×Rows:=ue a.wE z16
 let z18:Int:=z17.1
 let z19:Int×Rows:=rv a.oX z18
 let z20:Int:=z19.1
 let z21:Int×Rows:=rv a.pC z20
 bif Eb true (Nd a.ov k) then
  bif Eb true (OM 4 a.Maps ((wZ a.ov k).1)) then
   bif Eb true (yD a.Tx z0.1) then
    bif Eb true (OM 30 a.Rx z2) then
     bif Eb true (yd rG Sh a.ot z4) then
      bif Eb true (OM 6 a.og z6) then
       bif Eb true (OM 1 a.pd z8) then
        bif Eb true (Nc a.Filter z10) then
         bif Eb true (xr a.nz z12) then
          bif Eb true (OM 8 a.pG z14) then
           bif Eb true (OM 1 a.wE z16) then
            bif Eb true (OM 1 a.oX z18) then
             bif Eb true (OM 1 a.pC z20) then
              k_ z21.1 ((wZ a.ov k).2) z0.2 z1.2.1 z1.2.2 z3.2 z5.2 z7.2 z9.2 z11.2 z13.2.1 z13.2.2.1 z13.2.2.2 z15.2 z17.2 z19.2 z21.2
             else ke
            else ke
           else ke
          else ke
         else ke
        else ke
       else ke
      else ke
     else ke
    else ke
   else ke
  else ke
 else ke
def yC (a:ny) (k:Int):Bool:=xp false (fun _ _ _ _ _ _ _ _ _ _ _ _ _ _ _ _ _=>true) a k
def ph (a:ny) (k:Int):Int×Rows×Rows×Rows×Rows×Rows×Rows×Rows×Rows×Rows×Rows×Rows×Rows×Rows×Rows×Rows×Rows:=(xp none (fun r0 r1 r2 r3 r4 r5 r6 r7 r8 r9 r10 r11 r12 r13 r14 r15 r16=>some (r0,r1,r2,r3,r4,r5,r6,r7,r8,r9,r10,r11,r12,r13,r14,r15,r16)) a k).getD (0,[],[],[],[],[],[],[],[],[],[],[],[],[],[],[],[])
theorem nqR (k_:Int→Rows→Rows→Rows→Rows→Rows→Rows→Rows→Rows→Rows→Rows→Rows→Rows→Rows→Rows→Rows→Rows→α) (a:ny) (k:Int) (aJ:yC a k=true):xp ke k_ a k=k_ (ph a k).1 (ph a k).2.1 (ph a k).2.2.1 (ph a k).2.2.2.1 (ph a k).2.2.2.2.1 (ph a k).2.2.2.2.2.1 (ph a k).2.2.2.2.2.2.1 (ph a k).2.2.2.2.2.2.2.1 (ph a k).2.2.2.2.2.2.2.2.1 (ph a k).2.2.2.2.2.2.2.2.2.1 (ph a k).2.2.2.2.2.2.2.2.2.2.1 (ph a k).2.2.2.2.2.2.2.2.2.2.2.1 (ph a k).2.2.2.2.2.2.2.2.2.2.2.2.1 (ph a k).2.2.2.2.2.2.2.2.2.2.2.2.2.1 (ph a k).2.2.2.2.2.2.2.2.2.2.2.2.2.2.1 (ph a k).2.2.2.2.2.2.2.2.2.2.2.2.2.2.2.1 (ph a k).2.2.2.2.2.2.2.2.2.2.2.2.2.2.2.2:=by
 exact tD (K:=fun r:Int×Rows×Rows×Rows×Rows×Rows×Rows×Rows×Rows×Rows×Rows×Rows×Rows×Rows×Rows×Rows×Rows=>k_ r.1 r.2.1 r.2.2.1 r.2.2.2.1 r.2.2.2.2.1 r.2.2.2.2.2.1 r.2.2.2.2.2.2.1 r.2.2.2.2.2.2.2.1 r.2.2.2.2.2.2.2.2.1 r.2.2.2.2.2.2.2.2.2.1 r.2.2.2.2.2.2.2.2.2.2.1 r.2.2.2.2.2.2.2.2.2.2.2.1 r.2.2.2.2.2.2.2.2.2.2.2.2.1 r.2.2.2.2.2.2.2.2.2.2.2.2.2.1 r.2.2.2.2.2.2.2.2.2.2.2.2.2.2.1 r.2.2.2.2.2.2.2.2.2.2.2.2.2.2.2.1 r.2.2.2.2.2.2.2.2.2.2.2.2.2.2.2.2) (oe (oe (oe (oe (oe (oe (oe (oe (oe (oe (oe (oe (oe (fun _=>⟨_,rfl,rfl⟩)))))))))))))) aJ
def xn (k_:Int→α) (a:ny) (k:Int):α:=
 let z0:Int:=O9 a.Maps (Od a.ov k)
 let z1:Int:=RT a.Tx z0
 let z2:Int:=O_ a.Rx z1
 let z3:Int:=Yw a.ot z2
 let z4:Int:=RU a.og z3
 let z5:Int:=TY a.pd z4
 let z6:Int:=Uh a.Filter z5
 let z7:Int:=Pa a.nz z6
 let z8:Int:=RS a.pG z7
 let z9:Int:=ub a.wE z8
 let z10:Int:=qX a.oX z9
 let z11:Int:=qX a.pC z10
 bif Eb true (zL a.ov k) then
  bif decide (Od a.ov k<0) then k_ (-1)
  else bif Eb true (Qm yL 4 a.Maps (Od a.ov k)) then
    bif decide (z0<0) then k_ (-1)
    else bif Eb true (yq a.Tx z0) then
      bif decide (z1<0) then k_ (-1)
      else bif Eb true (Qm yM 30 a.Rx z1) then
        bif decide (z2<0) then k_ (-1)
        else bif Eb true (nfF a.ot z2) then
          bif decide (z3<0) then k_ (-1)
          else bif Eb true (Qm O6 6 a.og z3) then
            bif decide (z4<0) then k_ (-1)
            else bif Eb true (Qm O4 1 a.pd z4) then
              bif decide (z5<0) then k_ (-1)
              else bif Eb true (zJ a.Filter z5) then
                bif decide (z6<0) then k_ (-1)
                else bif Eb true (xi a.nz z6) then
                  bif decide (z7<0) then k_ (-1)
                  else bif Eb true (Qm O5 8 a.pG z7) then
                    bif decide (z8<0) then k_ (-1)
                    else bif Eb true (Qm rU 1 a.wE z8) then
                      bif decide (z9<0) then k_ (-1)
                      else bif Eb true (Qm rk 1 a.oX z9) then
                        bif decide (z10<0) then k_ (-1)
                        else bif Eb true (Qm rk 1 a.pC z10) then
                          bif decide (z11<0) then k_ (-1)
                          else k_ z11
                         else ke
                       else ke
                     else ke
                   else ke
                 else ke
               else ke
             else ke
           else ke
         else ke
       else ke
     else ke
   else ke
 else ke
def OI (a:ny) (k:Int):Bool:=xn false (fun _=>true) a k
def Yv (a:ny) (k:Int):Int:=(xn none (fun r0=>some (r0)) a k).getD 0
theorem nqI (k_:Int→α) (a:ny) (k:Int) (aJ:OI a k=true):xn ke k_ a k=k_ (Yv a k):=by
 exact tD (K:=fun r:Int=>k_ r) (oe (qJ pz (oe (qJ pz (oe (qJ pz (oe (qJ pz (oe (qJ pz (oe (qJ pz (oe (qJ pz (oe (qJ pz (oe (qJ pz (oe (qJ pz (oe (qJ pz (oe (qJ pz (oe (qJ pz pz)))))))))))))))))))))))))) aJ
theorem nCB (x k:Bool):((bif x then k else false)=true)=(x=true∧k=true):=by cases x<;>simp
def t6 (a:ny):Bool:=sm a.ov.nE && (sm a.Maps && (sm a.Tx.nI.oB && (w4 a.Tx.nr && (sm a.Rx && (naT a.ot && (sm a.og && (sm a.pd && (sm a.Filter.pH && (sm a.nz.oO && (sm a.nz.Table.nF && (sm a.nz.oF.Table && (sm a.pG && (sm a.wE && (sm a.oX && (sm a.pC)))))))))))))))
theorem nBl {a:ny} (h:sJ a=true):t6 a=true:=by
 simp only[sJ,RI,uj,NR,tG,za,sK,RJ,ui,NQ,tf,yc,sP,wY,uk,NW,ng,gn,nCB,Bool.and_eq_true,and_true,true_and,sW,tQ,tC,RL,List.all_eq_true] at h
 simp only[t6,w4,naT,Bool.and_eq_true,List.all_eq_true]
 obtain⟨h0,h1,⟨h2,h3,h4⟩,h5,⟨h6,h7⟩,h8,h9,h10,⟨h11,h12,h13⟩,h14,h15,h16,h17⟩:=h
 exact⟨h0,h1,h2,⟨h3,h4⟩,h5,⟨h6,h7⟩,h8,h9,h10,h11,h12,h13,h14,h15,h16,h17⟩
theorem nAW {a:ny} (h:t6 a=true):∃(K:Int) (P0 P1 P2 P3 P4 P5 P6 P7 P8 P9 P10 P11 P12 P13 P14 P15:Rows),yC a 1=true∧ph a 1=(K,P0,P1,P2,P3,P4,P5,P6,P7,P8,P9,P10,P11,P12,P13,P14,P15)∧0≤K∧OI (⟨⟨P0⟩,P1,⟨a.Tx.Ring,⟨a.Tx.nI.oG,a.Tx.nI.nL,a.Tx.nI.Count,P2⟩,P3,a.Tx.Next⟩,P4,P5,P6,P7,⟨a.Filter.Mac,a.Filter.pS,P8⟩,⟨P9,⟨P10⟩,⟨a.nz.oF.Key,P11⟩⟩,P12,a.sj,P13,P14,P15,a.Counters⟩:ny) 1=true∧Yv (⟨⟨P0⟩,P1,⟨a.Tx.Ring,⟨a.Tx.nI.oG,a.Tx.nI.nL,a.Tx.nI.Count,P2⟩,P3,a.Tx.Next⟩,P4,P5,P6,P7,⟨a.Filter.Mac,a.Filter.pS,P8⟩,⟨P9,⟨P10⟩,⟨a.nz.oF.Key,P11⟩⟩,P12,a.sj,P13,P14,P15,a.Counters⟩:ny) 1=K:=by
 simp only[t6,Bool.and_eq_true] at h
 obtain⟨s0,s1,s2,s3,s4,s5,s6,s7,s8,s9,s10,s11,s12,s13,s14,s15⟩:=h
 have l0:=sd s0
 obtain⟨K0,hK0⟩:∃K:Int,K=1+1*(a.ov.nE.length:Int):=⟨_,rfl⟩
 have o0:OM 1 a.ov.nE 1=true:=yE s0 (by omega) (by omega)
 have e0:ue a.ov.nE 1=(K0,(uT rU 1 a.ov.nE.length 1)):=by rw[hK0];rfl
 have q0:Qm rU 1 (uT rU 1 a.ov.nE.length 1) 1=true:=O8 s0 (by omega) (by omega)
 have g0:ub (uT rU 1 a.ov.nE.length 1) 1=K0:=by rw[hK0];simp only[ub,pL]
 have b0:0≤K0∧K0≤16777217:=by omega
 have z0:¬K0<0:=by omega
 clear hK0
 have l1:=sd s1
 obtain⟨K1,hK1⟩:∃K:Int,K=K0+4*(a.Maps.length:Int):=⟨_,rfl⟩
 have o1:OM 4 a.Maps K0=true:=yE s1 (by omega) (by omega)
 have e1:zd a.Maps K0=(K1,(uT yL 4 a.Maps.length K0)):=by rw[hK1];rfl
 have q1:Qm yL 4 (uT yL 4 a.Maps.length K0) K0=true:=O8 s1 (by omega) (by omega)
 have g1:O9 (uT yL 4 a.Maps.length K0) K0=K1:=by rw[hK1];simp only[O9,pL]
 have b1:0≤K1∧K1≤83886081:=by omega
 have z1:¬K1<0:=by omega
 clear hK1
 have l2:=sd s2
 obtain⟨K2,hK2⟩:∃K:Int,K=K1+1*(a.Tx.nI.oB.length:Int):=⟨_,rfl⟩
 have o2:OM 1 a.Tx.nI.oB K1=true:=yE s2 (by omega) (by omega)
 have e2:rv a.Tx.nI.oB K1=(K2,(uT rk 1 a.Tx.nI.oB.length K1)):=by rw[hK2];rfl
 have q2:Qm rk 1 (uT rk 1 a.Tx.nI.oB.length K1) K1=true:=O8 s2 (by omega) (by omega)
 have g2:qX (uT rk 1 a.Tx.nI.oB.length K1) K1=K2:=by rw[hK2];simp only[qX,pL]
 have b2:0≤K2∧K2≤100663297:=by omega
 have z2:¬K2<0:=by omega
 clear hK2
 obtain⟨o3,q3,g3,u3,v3⟩:=nBV s3 (k:=K2) (by omega) (by omega)
 obtain⟨K3,hK3⟩:∃K:Int,K=(R6 rH a.Tx.nr K2).2:=⟨_,rfl⟩
 have e3:zg a.Tx.nr K2=(K3,(R6 rH a.Tx.nr K2).1):=by rw[hK3];rfl
 have g3:Yx (R6 rH a.Tx.nr K2).1 K2=K3:=by rw[hK3];exact g3
 rw[←hK3] at u3 v3
 have b3:0≤K3∧K3≤281475211591681:=by omega
 have z3:¬K3<0:=by omega
 clear hK3
 have l4:=sd s4
 obtain⟨K4,hK4⟩:∃K:Int,K=K3+30*(a.Rx.length:Int):=⟨_,rfl⟩
 have o4:OM 30 a.Rx K3=true:=yE s4 (by omega) (by omega)
 have e4:zf a.Rx K3=(K4,(uT yM 30 a.Rx.length K3)):=by rw[hK4];rfl
 have q4:Qm yM 30 (uT yM 30 a.Rx.length K3) K3=true:=O8 s4 (by omega) (by omega)
 have g4:O_ (uT yM 30 a.Rx.length K3) K3=K4:=by rw[hK4];simp only[O_,pL]
 have b4:0≤K4∧K4≤281475714908161:=by omega
 have z4:¬K4<0:=by omega
 clear hK4
 obtain⟨o5,q5,g5,u5,v5⟩:=nBU s5 (k:=K4) (by omega) (by omega)
 obtain⟨K5,hK5⟩:∃K:Int,K=(R6 rG a.ot K4).2:=⟨_,rfl⟩
 have e5:ze a.ot K4=(K5,(R6 rG a.ot K4).1):=by rw[hK5];rfl
 have g5:Yw (R6 rG a.ot K4).1 K4=K5:=by rw[hK5];exact g5
 rw[←hK5] at u5 v5
 have b5:0≤K5∧K5≤562950825836545:=by omega
 have z5:¬K5<0:=by omega
 clear hK5
 have l6:=sd s6
 obtain⟨K6,hK6⟩:∃K:Int,K=K5+6*(a.og.length:Int):=⟨_,rfl⟩
 have o6:OM 6 a.og K5=true:=yE s6 (by omega) (by omega)
 have e6:OL a.og K5=(K6,(uT O6 6 a.og.length K5)):=by rw[hK6];rfl
 have q6:Qm O6 6 (uT O6 6 a.og.length K5) K5=true:=O8 s6 (by omega) (by omega)
 have g6:RU (uT O6 6 a.og.length K5) K5=K6:=by rw[hK6];simp only[RU,pL]
 have b6:0≤K6∧K6≤562950926499841:=by omega
 have z6:¬K6<0:=by omega
 clear hK6
 have l7:=sd s7
 obtain⟨K7,hK7⟩:∃K:Int,K=K6+1*(a.pd.length:Int):=⟨_,rfl⟩
 have o7:OM 1 a.pd K6=true:=yE s7 (by omega) (by omega)
 have e7:Rf a.pd K6=(K7,(uT O4 1 a.pd.length K6)):=by rw[hK7];rfl
 have q7:Qm O4 1 (uT O4 1 a.pd.length K6) K6=true:=O8 s7 (by omega) (by omega)
 have g7:TY (uT O4 1 a.pd.length K6) K6=K7:=by rw[hK7];simp only[TY,pL]
 have b7:0≤K7∧K7≤562950943277057:=by omega
 have z7:¬K7<0:=by omega
 clear hK7
 have l8:=sd s8
 obtain⟨K8,hK8⟩:∃K:Int,K=K7+1*(a.Filter.pH.length:Int):=⟨_,rfl⟩
 have o8:OM 1 a.Filter.pH K7=true:=yE s8 (by omega) (by omega)
 have e8:rv a.Filter.pH K7=(K8,(uT rk 1 a.Filter.pH.length K7)):=by rw[hK8];rfl
 have q8:Qm rk 1 (uT rk 1 a.Filter.pH.length K7) K7=true:=O8 s8 (by omega) (by omega)
 have g8:qX (uT rk 1 a.Filter.pH.length K7) K7=K8:=by rw[hK8];simp only[qX,pL]
 have b8:0≤K8∧K8≤562950960054273:=by omega
 have z8:¬K8<0:=by omega
 clear hK8
 have l9:=sd s9
 obtain⟨K9,hK9⟩:∃K:Int,K=K8+9*(a.nz.oO.length:Int):=⟨_,rfl⟩
 have o9:OM 9 a.nz.oO K8=true:=yE s9 (by omega) (by omega)
 have e9:OJ a.nz.oO K8=(K9,(uT nap 9 a.nz.oO.length K8)):=by rw[hK9];rfl
 have q9:Qm nap 9 (uT nap 9 a.nz.oO.length K8) K8=true:=O8 s9 (by omega) (by omega)
 have g9:QA (uT nap 9 a.nz.oO.length K8) K8=K9:=by rw[hK9];simp only[QA,pL]
 have b9:0≤K9∧K9≤562951111049217:=by omega
 have z9:¬K9<0:=by omega
 clear hK9
 have l10:=sd s10
 obtain⟨K10,nCC⟩:∃K:Int,K=K9+7*(a.nz.Table.nF.length:Int):=⟨_,rfl⟩
 have o10:OM 7 a.nz.Table.nF K9=true:=yE s10 (by omega) (by omega)
 have e10:Rg a.nz.Table.nF K9=(K10,(uT naq 7 a.nz.Table.nF.length K9)):=by rw[nCC];rfl
 have q10:Qm naq 7 (uT naq 7 a.nz.Table.nF.length K9) K9=true:=O8 s10 (by omega) (by omega)
 have g10:TZ (uT naq 7 a.nz.Table.nF.length K9) K9=K10:=by rw[nCC];simp only[TZ,pL]
 have b10:0≤K10∧K10≤562951228489729:=by omega
 have z10:¬K10<0:=by omega
 clear nCC
 have l11:=sd s11
 obtain⟨K11,nCD⟩:∃K:Int,K=K10+1*(a.nz.oF.Table.length:Int):=⟨_,rfl⟩
 have o11:OM 1 a.nz.oF.Table K10=true:=yE s11 (by omega) (by omega)
 have e11:rv a.nz.oF.Table K10=(K11,(uT rk 1 a.nz.oF.Table.length K10)):=by rw[nCD];rfl
 have q11:Qm rk 1 (uT rk 1 a.nz.oF.Table.length K10) K10=true:=O8 s11 (by omega) (by omega)
 have g11:qX (uT rk 1 a.nz.oF.Table.length K10) K10=K11:=by rw[nCD];simp only[qX,pL]
 have b11:0≤K11∧K11≤562951245266945:=by omega
 have z11:¬K11<0:=by omega
 clear nCD
 have l12:=sd s12
 obtain⟨K12,nCE⟩:∃K:Int,K=K11+8*(a.pG.length:Int):=⟨_,rfl⟩
 have o12:OM 8 a.pG K11=true:=yE s12 (by omega) (by omega)
 have e12:OK a.pG K11=(K12,(uT O5 8 a.pG.length K11)):=by rw[nCE];rfl
 have q12:Qm O5 8 (uT O5 8 a.pG.length K11) K11=true:=O8 s12 (by omega) (by omega)
 have g12:RS (uT O5 8 a.pG.length K11) K11=K12:=by rw[nCE];simp only[RS,pL]
 have b12:0≤K12∧K12≤562951379484673:=by omega
 have z12:¬K12<0:=by omega
 clear nCE
 have l13:=sd s13
 obtain⟨K13,nCF⟩:∃K:Int,K=K12+1*(a.wE.length:Int):=⟨_,rfl⟩
 have o13:OM 1 a.wE K12=true:=yE s13 (by omega) (by omega)
 have e13:ue a.wE K12=(K13,(uT rU 1 a.wE.length K12)):=by rw[nCF];rfl
 have q13:Qm rU 1 (uT rU 1 a.wE.length K12) K12=true:=O8 s13 (by omega) (by omega)
 have g13:ub (uT rU 1 a.wE.length K12) K12=K13:=by rw[nCF];simp only[ub,pL]
 have b13:0≤K13∧K13≤562951396261889:=by omega
 have z13:¬K13<0:=by omega
 clear nCF
 have l14:=sd s14
 obtain⟨K14,nCG⟩:∃K:Int,K=K13+1*(a.oX.length:Int):=⟨_,rfl⟩
 have o14:OM 1 a.oX K13=true:=yE s14 (by omega) (by omega)
 have e14:rv a.oX K13=(K14,(uT rk 1 a.oX.length K13)):=by rw[nCG];rfl
 have q14:Qm rk 1 (uT rk 1 a.oX.length K13) K13=true:=O8 s14 (by omega) (by omega)
 have g14:qX (uT rk 1 a.oX.length K13) K13=K14:=by rw[nCG];simp only[qX,pL]
 have b14:0≤K14∧K14≤562951413039105:=by omega
 have z14:¬K14<0:=by omega
 clear nCG
 have l15:=sd s15
 obtain⟨K15,nCH⟩:∃K:Int,K=K14+1*(a.pC.length:Int):=⟨_,rfl⟩
 have o15:OM 1 a.pC K14=true:=yE s15 (by omega) (by omega)
 have e15:rv a.pC K14=(K15,(uT rk 1 a.pC.length K14)):=by rw[nCH];rfl
 have q15:Qm rk 1 (uT rk 1 a.pC.length K14) K14=true:=O8 s15 (by omega) (by omega)
 have g15:qX (uT rk 1 a.pC.length K14) K14=K15:=by rw[nCH];simp only[qX,pL]
 have b15:0≤K15∧K15≤562951429816321:=by omega
 have z15:¬K15<0:=by omega
 clear nCH
 refine⟨K15,(uT rU 1 a.ov.nE.length 1),(uT yL 4 a.Maps.length K0),(uT rk 1 a.Tx.nI.oB.length K1),(R6 rH a.Tx.nr K2).1,(uT yM 30 a.Rx.length K3),(R6 rG a.ot K4).1,(uT O6 6 a.og.length K5),(uT O4 1 a.pd.length K6),(uT rk 1 a.Filter.pH.length K7),(uT nap 9 a.nz.oO.length K8),(uT naq 7 a.nz.Table.nF.length K9),(uT rk 1 a.nz.oF.Table.length K10),(uT O5 8 a.pG.length K11),(uT rU 1 a.wE.length K12),(uT rk 1 a.oX.length K13),(uT rk 1 a.pC.length K14), ?_, ?_,by omega, ?_, ?_⟩
 ·simp only[Nd,wZ,vr,R4,PQ,xq,Nc,Ox,vq,wy,vN,tA,Nf,Oy,vt,yD,vv,uC,xr,sL,tX,yC,ph,xp,Option.getD_some,e0,e1,e2,e3,e4,e5,e6,e7,e8,e9,e10,e11,e12,e13,e14,e15,o0,o1,o2,o3,o4,o5,o6,o7,o8,o9,o10,o11,o12,o13,o14,o15,ng,nm,cond_true]
 ·simp only[Nd,wZ,vr,R4,PQ,xq,Nc,Ox,vq,wy,vN,tA,Nf,Oy,vt,yD,vv,uC,xr,sL,tX,yC,ph,xp,e0,e1,e2,e3,e4,e5,e6,e7,e8,e9,e10,e11,e12,e13,e14,e15,o0,o1,o2,o3,o4,o5,o6,o7,o8,o9,o10,o11,o12,o13,o14,o15,ng,nm,cond_true,Option.getD_some]
 ·simp only[zL,Od,vo,RR,Ui,xo,zJ,Uh,vn,wj,zK,tz,zM,Uj,vp,yq,RT,uB,xi,Pa,tW,OI,Yv,xn,Option.getD_some,g0,g1,g2,g3,g4,g5,g6,g7,g8,g9,g10,g11,g12,g13,g14,g15,q0,q1,q2,q3,q4,q5,q6,q7,q8,q9,q10,q11,q12,q13,q14,q15,z0,z1,z2,z3,z4,z5,z6,z7,z8,z9,z10,z11,z12,z13,z14,z15,decide_false,cond_false,ng,nm,cond_true]
 ·simp only[zL,Od,vo,RR,Ui,xo,zJ,Uh,vn,wj,zK,tz,zM,Uj,vp,yq,RT,uB,xi,Pa,tW,OI,Yv,xn,g0,g1,g2,g3,g4,g5,g6,g7,g8,g9,g10,g11,g12,g13,g14,g15,q0,q1,q2,q3,q4,q5,q6,q7,q8,q9,q10,q11,q12,q13,q14,q15,z0,z1,z2,z3,z4,z5,z6,z7,z8,z9,z10,z11,z12,z13,z14,z15,decide_false,cond_false,ng,nm,cond_true,Option.getD_some]
theorem Wm {a:Rows} {left:Int} (h1:0≤left) (h2:left≤1048576) (ha:a.length≤9223372036854775807) (h0:0≤nZ a left):a.length≤1048576:=by
 obtain⟨e,hl⟩:=nfs h1 h2 ha
 simp only[nZ,e] at h0
 by_cases hn:left - len a<0
 ·simp [hn] at h0
 ·simp only[len] at hn;omega
theorem niO {a:nh} {left:Int} (uU:kc nh.ct a.enc) (h1:0≤left) (h2:left≤1048576) (h0:0≤n8 a left):a.nr.length≤1048576:=by
 simp only[n8,wx,id] at h0
 by_cases c0:qy a.nI left<0
 ·simp only[c0,decide_true,cond_true] at h0;omega
 simp only[c0,decide_false,cond_false] at h0
 have k0:=PI (nh.nsY uU) h1 h2 (Int.not_lt.1 c0)
 by_cases c1:sH a.nr (qy a.nI left)<0
 ·simp only[c1,decide_true,cond_true] at h0;omega
 simp only[c1,decide_false,cond_false] at h0
 have k1:=SM (nh.vR uU) (Int.not_lt.1 c0) k0.1 (Int.not_lt.1 c1)
 have n1:=nae (Int.not_lt.1 c0) k0.1 (oh (nh.vR uU)).1 (Int.not_lt.1 c1)
 exact n1
theorem nq4 {a:ny} {left:Int} (uU:kc ny.ct a.enc) (h1:0≤left) (h2:left≤1048576) (h0:0≤rX a left):a.Maps.length≤1048576∧a.Tx.nr.length≤1048576∧a.Rx.length≤1048576∧a.ot.length≤1048576∧a.og.length≤1048576∧a.pd.length≤1048576∧a.pG.length≤1048576∧a.wE.length≤1048576∧a.oX.length≤1048576∧a.pC.length≤1048576:=by
 simp only[rX,zY,id] at h0
 by_cases c0:n_ a.ov left<0
 ·simp only[c0,decide_true,cond_true] at h0;omega
 simp only[c0,decide_false,cond_false] at h0
 have k0:=QY (ny.noH uU) h1 h2 (Int.not_lt.1 c0)
 by_cases c1:nZ a.Maps (n_ a.ov left)<0
 ·simp only[c1,decide_true,cond_true] at h0;omega
 simp only[c1,decide_false,cond_false] at h0
 have k1:=rZ (Int.not_lt.1 c0) k0.1 (oh (ny.nsX uU)).1 (Int.not_lt.1 c1)
 have n1:=Wm (Int.not_lt.1 c0) k0.1 (oh (ny.nsX uU)).1 (Int.not_lt.1 c1)
 by_cases c2:n8 a.Tx (nZ a.Maps (n_ a.ov left))<0
 ·simp only[c2,decide_true,cond_true] at h0;omega
 simp only[c2,decide_false,cond_false] at h0
 have k2:=Xi (ny.nA7 uU) (Int.not_lt.1 c1) k1.1 (Int.not_lt.1 c2)
 have nC_:=niO (ny.nA7 uU) (Int.not_lt.1 c1) k1.1 (Int.not_lt.1 c2)
 by_cases c3:oA a.Rx (n8 a.Tx (nZ a.Maps (n_ a.ov left)))<0
 ·simp only[c3,decide_true,cond_true] at h0;omega
 simp only[c3,decide_false,cond_false] at h0
 have k3:=Vv (ny.nB8 uU) (Int.not_lt.1 c2) k2.1 (Int.not_lt.1 c3)
 have n3:=nae (Int.not_lt.1 c2) k2.1 (oh (ny.nB8 uU)).1 (Int.not_lt.1 c3)
 by_cases c4:pg a.ot (oA a.Rx (n8 a.Tx (nZ a.Maps (n_ a.ov left))))<0
 ·simp only[c4,decide_true,cond_true] at h0;omega
 simp only[c4,decide_false,cond_false] at h0
 have k4:=ncb (ny.nfx uU) (Int.not_lt.1 c3) k3.1 (Int.not_lt.1 c4)
 have n4:=nae (Int.not_lt.1 c3) k3.1 (oh (ny.nfx uU)).1 (Int.not_lt.1 c4)
 by_cases c5:nZ a.og (pg a.ot (oA a.Rx (n8 a.Tx (nZ a.Maps (n_ a.ov left)))))<0
 ·simp only[c5,decide_true,cond_true] at h0;omega
 simp only[c5,decide_false,cond_false] at h0
 have k5:=rZ (Int.not_lt.1 c4) k4.1 (oh (ny.njC uU)).1 (Int.not_lt.1 c5)
 have n5:=Wm (Int.not_lt.1 c4) k4.1 (oh (ny.njC uU)).1 (Int.not_lt.1 c5)
 by_cases c6:nZ a.pd (nZ a.og (pg a.ot (oA a.Rx (n8 a.Tx (nZ a.Maps (n_ a.ov left))))))<0
 ·simp only[c6,decide_true,cond_true] at h0;omega
 simp only[c6,decide_false,cond_false] at h0
 have k6:=rZ (Int.not_lt.1 c5) k5.1 (oh (ny.njz uU)).1 (Int.not_lt.1 c6)
 have n6:=Wm (Int.not_lt.1 c5) k5.1 (oh (ny.njz uU)).1 (Int.not_lt.1 c6)
 by_cases c7:pJ a.Filter (nZ a.pd (nZ a.og (pg a.ot (oA a.Rx (n8 a.Tx (nZ a.Maps (n_ a.ov left)))))))<0
 ·simp only[c7,decide_true,cond_true] at h0;omega
 simp only[c7,decide_false,cond_false] at h0
 have k7:=Zy (ny.nyy uU) (Int.not_lt.1 c6) k6.1 (Int.not_lt.1 c7)
 by_cases c8:pD a.nz (pJ a.Filter (nZ a.pd (nZ a.og (pg a.ot (oA a.Rx (n8 a.Tx (nZ a.Maps (n_ a.ov left))))))))<0
 ·simp only[c8,decide_true,cond_true] at h0;omega
 simp only[c8,decide_false,cond_false] at h0
 have k8:=Vy (ny.no5 uU) (Int.not_lt.1 c7) k7.1 (Int.not_lt.1 c8)
 by_cases c9:qz a.pG (pD a.nz (pJ a.Filter (nZ a.pd (nZ a.og (pg a.ot (oA a.Rx (n8 a.Tx (nZ a.Maps (n_ a.ov left)))))))))<0
 ·simp only[c9,decide_true,cond_true] at h0;omega
 simp only[c9,decide_false,cond_false] at h0
 have k9:=Xh (ny.njB uU) (Int.not_lt.1 c8) k8.1 (Int.not_lt.1 c9)
 have n9:=nae (Int.not_lt.1 c8) k8.1 (oh (ny.njB uU)).1 (Int.not_lt.1 c9)
 by_cases c10:p9 a.wE (qz a.pG (pD a.nz (pJ a.Filter (nZ a.pd (nZ a.og (pg a.ot (oA a.Rx (n8 a.Tx (nZ a.Maps (n_ a.ov left))))))))))<0
 ·simp only[c10,decide_true,cond_true] at h0;omega
 simp only[c10,decide_false,cond_false] at h0
 have k10:=PM (ny.nzq uU) (Int.not_lt.1 c9) k9.1 (Int.not_lt.1 c10)
 have n10:=nae (Int.not_lt.1 c9) k9.1 (oh (ny.nzq uU)).1 (Int.not_lt.1 c10)
 by_cases c11:nZ a.oX (p9 a.wE (qz a.pG (pD a.nz (pJ a.Filter (nZ a.pd (nZ a.og (pg a.ot (oA a.Rx (n8 a.Tx (nZ a.Maps (n_ a.ov left)))))))))))<0
 ·simp only[c11,decide_true,cond_true] at h0;omega
 simp only[c11,decide_false,cond_false] at h0
 have k11:=rZ (Int.not_lt.1 c10) k10.1 (oh (ny.na0 uU)).1 (Int.not_lt.1 c11)
 have n11:=Wm (Int.not_lt.1 c10) k10.1 (oh (ny.na0 uU)).1 (Int.not_lt.1 c11)
 by_cases c12:nZ a.pC (nZ a.oX (p9 a.wE (qz a.pG (pD a.nz (pJ a.Filter (nZ a.pd (nZ a.og (pg a.ot (oA a.Rx (n8 a.Tx (nZ a.Maps (n_ a.ov left))))))))))))<0
 ·simp only[c12,decide_true,cond_true] at h0;omega
 simp only[c12,decide_false,cond_false] at h0
 have k12:=rZ (Int.not_lt.1 c11) k11.1 (oh (ny.nfy uU)).1 (Int.not_lt.1 c12)
 have n12:=Wm (Int.not_lt.1 c11) k11.1 (oh (ny.nfy uU)).1 (Int.not_lt.1 c12)
 exact⟨n1,nC_,n3,n4,n5,n6,n9,n10,n11,n12⟩
theorem foldl_push (q:List DC→List DC):∀(l o:Rows),l.foldl (fun o r=>o++[q r]) o=o++l.map q
 | [],o=>by simp
 | r::l,o=>by rw[List.foldl_cons,foldl_push q l,List.map_cons,List.append_assoc];rfl
def TV (k_:Bool→α) (x:Rows) (nX vc vd ve:Int) (vf:Rows) (oD:Int→Int→Rows→α) (left oc:Int) (all:Rows):α:=
 bif decide (oc<nX) then
  bif Eb true (idx oc x) then
   bif bif decide (rI (nth x (Int.toNat oc)) 1<1) then true else bif decide (left<rI (nth x (Int.toNat oc)) 1) then true else !(nf (rI (nth x (Int.toNat oc)) 0) 0 65535) then k_ false
   else bif Eb true (oY 8 all (rR (nth x (Int.toNat oc)) 2)) then
     oD (nM (left - (rI (nth x (Int.toNat oc)) 1))) (nM (oc+1)) (all++(rR (nth x (Int.toNat oc)) 2))
    else ke
  else ke
 else bif Eb true (Uf (⟨vc,vd,ve,vf⟩:nv) all) then
   k_ ((qp (⟨vc,vd,ve,vf⟩:nv) all).2)
  else ke
def wR (k_:Bool→α) (N:Nat) (x:Rows) (nX vc vd ve:Int) (vf:Rows) (m_:Nat):Int→Int→Rows→α:=
 Nat.rec (motive:=fun _=>Int→Int→Rows→α) (fun _ _ _=>ke) (fun _ oD=>TV ke k_ x nX vc vd ve vf oD) m_
theorem ndD (k_:Bool→α) (N:Nat) (x:Rows) (nX vc vd ve:Int) (vf:Rows) (m_:Nat):wR ke k_ N x nX vc vd ve vf (m_+1)=TV ke k_ x nX vc vd ve vf (wR ke k_ N x nX vc vd ve vf m_):=rfl
def WK {α:Type} (ke:α) (k_:Bool→α) (l0:Rows→Int→Int→Int→Int→Rows→Int→Int→Rows→α) (q:nh):α:=
 bif bif !(tx q.Ring) then true else bif !(qB q.nI) then true else !(nf q.Next 0 65535) then k_ false
 else l0 q.nr (len q.nr) q.nI.oG q.nI.nL q.nI.Count q.nI.oB q.Ring.nL 0 []
def noR (k_:Bool→α) (N:Nat) (q:nh):α:=WK ke k_ (fun x nX vc vd ve vf=>wR ke k_ N x nX vc vd ve vf N) q
theorem OE {r:nB} (h:tx r=true):2≤r.nL∧r.nL≤16:=by
 have hs:tY r.nL=true:=by
  cases hs:tY r.nL
  ·unfold tx XZ at h
   rw[hs] at h
   revert h
   cases nf r.oG 0 130944<;>simp
  ·rfl
 rcases VM hs with h | h | h | h<;>omega
def ns9:Rows→Nat
 | []=>0
 | r::rs=>(rR r 2).length+ns9 rs
def Ru:Rows→Rows
 | []=>[]
 | r::rs=>rR r 2++Ru rs
def Se:Rows→Int
 | []=>0
 | r::rs=>rI r 1+Se rs
def zx (q:nh):Bool:=decide (q.nI.oB.length≤1048576) && (sm q.nr && decide (ns9 q.nr≤1048576))
theorem nA5 {q:nh} (h:zx q=true):sm q.nI.oB=true∧q.nr.length≤16777216∧ns9 q.nr≤16777216:=by
 simp only[zx,Bool.and_eq_true,decide_eq_true_eq] at h
 exact⟨decide_eq_true (by omega),sd h.2.1,by omega⟩
def wA (n:Int) (r:List DC):Bool:=bif nf (rI r 1) 1 n then nf (rI r 0) 0 65535 else false
def Sg (q:nh):Bool:=bif bif !(tx q.Ring) then true else bif !(qB q.nI) then true else !(nf q.Next 0 65535) then false
 else bif q.nr.all (wA q.Ring.nL) then bif (qp q.nI (Ru q.nr)).2 then decide (Se q.nr≤q.Ring.nL) else false else false
theorem drop_cons {l:Rows} {i:Nat} (h:i<l.length):l.drop i=nth l i::l.drop (i+1):=by
 rw[List.drop_eq_getElem_cons h]
 simp [nth,List.getD_eq_getElem?_getD,h]
theorem nfC {l:Rows} {i:Nat} (h:i<l.length):ns9 (l.drop i)=(rR (nth l i) 2).length+ns9 (l.drop (i+1)):=by
 rw[drop_cons h]
 rfl
def txP (n:Int) (r:List DC) (_:Int×Rows):Bool:= !(wA n r)
def txF (r:List DC) (s:Int×Rows):Int×Rows:=(s.1+rI r 1,s.2++rR r 2)
def txQ (r:List DC) (s:Int×Rows):Bool:=bif decide (rI r 1<1) then true else bif decide (s.1<rI r 1) then true else !(nf (rI r 0) 0 65535)
def txG (r:List DC) (s:Int×Rows):Int×Rows:=(s.1 - rI r 1,s.2++rR r 2)
theorem nB4 {α:Type} (n:Int) (x:α) (fin:Int×Rows→α):∀(l:Rows) (s:Int×Rows),Qj (txP n) txF x fin l s=bif l.all (wA n) then fin (s.1+Se l,s.2++Ru l) else x
 | [],s=>by simp [Qj,Se,Ru]
 | r::rs,s=>by
  simp only[Qj,txP,List.all_cons]
  cases hs:wA n r
  ·rfl
  ·rw[nB4 n x fin rs]
   simp only[Bool.not_true,cond_false,Bool.true_and,txF,Se,Ru,Int.add_assoc,List.append_assoc]
theorem Rk {n:Int} {r:List DC} :wA n r=true↔(1≤rI r 1∧rI r 1≤n)∧nf (rI r 0) 0 65535=true:=by
 unfold wA
 cases h:nf (rI r 1) 1 n
 ·constructor
  ·intro h;cases h
  ·intro h'
   have:nf (rI r 1) 1 n=true:=nS.2 h'.1
   rw[h] at this
   cases this
 ·have:=nS.1 h
  simp only[cond_true]
  exact⟨fun h'=>⟨this,h'⟩,fun h'=>h'.2⟩
theorem nl8 {n:Int} :∀ {l:Rows},l.all (wA n)=true→0≤Se l
 | [],_=>by simp [Se]
 | r::rs,h=>by
  simp only[List.all_cons,Bool.and_eq_true] at h
  have:=nl8 h.2
  have:=(Rk.1 h.1).1
  simp only[Se]
  omega
theorem nA4 {α:Type} (n:Int) (x:α) (fin:Rows→α):∀(l:Rows) (s:Int×Rows),s.1≤n→0≤s.1→Qj txQ txG x (fun s=>fin s.2) l s=bif l.all (wA n) then bif decide (Se l≤s.1) then fin (s.2++Ru l) else x else x
 | [],s,h1,h2=>by
  have:decide (Se []≤s.1)=true:=decide_eq_true h2
  simp only[Qj,List.all_nil,cond_true,Ru,List.append_nil,this]
 | r::rs,s,h1,h2=>by
  simp only[Qj,List.all_cons]
  by_cases a1:rI r 1<1
  ·have e:wA n r=false:=by
    cases hs:wA n r
    ·rfl
    ·have:=(Rk.1 hs).1;omega
   rw[e]
   simp only[txQ,decide_eq_true a1,cond_true,Bool.false_and,cond_false]
  ·cases hb:nf (rI r 0) 0 65535
   ·have e:wA n r=false:=by
     cases hs:wA n r
     ·rfl
     ·have:=(Rk.1 hs).2;rw[hb] at this;cases this
    rw[e]
    have:txQ r s=true:=by
     simp only[txQ,decide_eq_false a1,hb,cond_false,Bool.not_false]
     cases decide (s.1<rI r 1)<;>rfl
    rw[this]
    rfl
   ·by_cases a2:s.1<rI r 1
    ·have:txQ r s=true:=by simp only[txQ,decide_eq_false a1,decide_eq_true a2,cond_false,cond_true]
     rw[this,cond_true]
     cases hr:(wA n r && rs.all (wA n))
     ·rfl
     ·simp only[Bool.and_eq_true] at hr
      have:=nl8 hr.2
      rw[cond_true,decide_eq_false (by simp only[Se];omega)]
      rfl
    ·have:txQ r s=false:=by simp only[txQ,decide_eq_false a1,decide_eq_false a2,hb,cond_false,Bool.not_true]
     have e:wA n r=true:=Rk.2 ⟨⟨by omega,by omega⟩,hb⟩
     rw[this,cond_false,e,Bool.true_and]
     have ih:=nA4 n x fin rs (txG r s) (by simp only[txG];omega) (by simp only[txG];omega)
     rw[ih]
     have ed:decide (Se rs≤(txG r s).1)=decide (Se (r::rs)≤s.1):=by
      have:Se rs≤(txG r s).1↔Se (r::rs)≤s.1:=by simp only[txG,Se];omega
      exact decide_eq_decide.2 this
     rw[ed]
     simp only[txG,Ru,List.append_assoc]
theorem nzP (k_:Bool→α) (q:nh) (h_q:kc nh.ct q.enc) (aJ:zx q=true):∃N,noR ke k_ N q=k_ (Sg q):=by
 have hq:zx q=true:=aJ
 obtain⟨hf,hwn,hbn⟩:=nA5 hq
 obtain⟨hl,hw⟩:=oh (nh.vR h_q)
 refine⟨q.nr.length+1, ?_⟩
 unfold noR WK Sg
 refine pQ (fun _=>rfl) (fun hg=> ?_)
 have hn:2≤q.Ring.nL∧q.Ring.nL≤16:=by
  cases h1:tx q.Ring
  ·rw[h1] at hg;cases hg
  exact OE h1
 have nCK:∀all:Rows,all.length≤16777216→Uf q.nI all=true:=by
  intro all h
  have:=sd hf
  simp only[Uf,hf,Bool.true_and,decide_eq_true_eq]
  omega
 have key:wR ke k_ (q.nr.length+1) q.nr (len q.nr) q.nI.oG q.nI.nL q.nI.Count q.nI.oB (q.nr.length+1) q.Ring.nL 0 []=Qj txQ txG (k_ false) (fun s=>k_ (qp q.nI s.2).2) q.nr (q.Ring.nL,[]):=by
  refine ZZ q.nr (fun n i (s:Int×Rows)=>wR ke k_ (q.nr.length+1) q.nr (len q.nr) q.nI.oG q.nI.nL q.nI.Count q.nI.oB n s.1 i s.2) txQ txG (k_ false) (fun s=>k_ (qp q.nI s.2).2) (fun i s=>0≤s.1∧s.1≤16∧s.2.length+ns9 (q.nr.drop i)≤16777216) ?_ ?_ ?_ (q.Ring.nL,[]) ⟨by omega,by omega,by simpa using hbn⟩
  ·intro i s h hi hp
   have hb:=nfC h
   obtain⟨i1,i2,i3⟩:=hi
   have h1:¬rI (nth q.nr i) 1<1:=by
    intro hc;simp only[txQ,decide_eq_true hc,cond_true] at hp;cases hp
   have h2:¬s.1<rI (nth q.nr i) 1:=by
    intro hc;simp only[txQ,decide_eq_false h1,decide_eq_true hc,cond_true,cond_false] at hp;cases hp
   refine⟨by simp only[txG];omega,by simp only[txG];omega, ?_⟩
   simp only[txG,List.length_append]
   omega
  ·intro n i s h hi
   obtain⟨i1,i2,i3⟩:=hi
   have hb:=nfC h
   show wR ke k_ (q.nr.length+1) q.nr (len q.nr) q.nI.oG q.nI.nL q.nI.Count q.nI.oB (n+1) s.1 (i:Int) s.2=_
   rw[ndD]
   have hr:oY 8 s.2 (rR (nth q.nr i) 2)=true:=ry (by omega) (by omega)
   simp only[TV,oL h,nT h,oa h hl,Int.toNat_natCast,ng,nm,cond_true,hr]
   refine cond_congr rfl (fun _=>rfl) (fun hp=> ?_)
   have h1:¬rI (nth q.nr i) 1<1:=by
    intro hc;simp only[decide_eq_true hc,cond_true] at hp;cases hp
   have h2:¬s.1<rI (nth q.nr i) 1:=by
    intro hc;simp only[decide_eq_false h1,decide_eq_true hc,cond_true,cond_false] at hp;cases hp
   rw[nQ (n:=s.1 - rI (nth q.nr i) 1) (by omega) (by omega)]
   rfl
  ·intro n s hi
   obtain⟨i1,i2,i3⟩:=hi
   show wR ke k_ (q.nr.length+1) q.nr (len q.nr) q.nI.oG q.nI.nL q.nI.Count q.nI.oB (n+1) s.1 (q.nr.length:Int) s.2=_
   rw[ndD]
   have hg:Uf (⟨q.nI.oG,q.nI.nL,q.nI.Count,q.nI.oB⟩:nv) s.2=true:=nCK s.2 (by omega)
   simp only[TV,nN,cond_false,hg,ng,cond_true]
 refine key.trans ?_
 refine (nA4 q.Ring.nL (k_ false) (fun all=>k_ (qp q.nI all).2) q.nr (q.Ring.nL,[]) (by simp) (by show 0≤q.Ring.nL;omega)).trans ?_
 simp only[List.nil_append]
 cases q.nr.all (wA q.Ring.nL)
 ·rfl
 ·cases hd:decide (Se q.nr≤q.Ring.nL)
  ·simp only[cond_true,cond_false]
   cases (qp q.nI (Ru q.nr)).2<;>rfl
  ·simp only[cond_true]
   cases (qp q.nI (Ru q.nr)).2<;>rfl
def TX (k_:Bool→α) (uX vc vd ve:Int) (vf sX:Rows) (oD:Int→Int→Rows→α) (ca k:Int) (all:Rows):α:=
 bif decide (k<len sX) then
  bif Eb true (idx k sX) then
   bif bif !(nf (rI (nth sX (Int.toNat k)) 1) 1 uX) then true else !(nf (rI (nth sX (Int.toNat k)) 0) 0 65535) then k_ false
   else bif Eb true (oY 8 all (rR (nth sX (Int.toNat k)) 2)) then
     oD (nM (ca+(rI (nth sX (Int.toNat k)) 1))) (nM (k+1)) (all++(rR (nth sX (Int.toNat k)) 2))
    else ke
  else ke
 else bif Eb true (Uf (⟨vc,vd,ve,vf⟩:nv) all) then
   k_ (bif (qp (⟨vc,vd,ve,vf⟩:nv) all).2 then decide (ca≤uX) else false)
  else ke
def xe (k_:Bool→α) (N:Nat) (uX vc vd ve:Int) (vf sX:Rows) (m_:Nat):Int→Int→Rows→α:=
 Nat.rec (motive:=fun _=>Int→Int→Rows→α) (fun _ _ _=>ke) (fun _ oD=>TX ke k_ uX vc vd ve vf sX oD) m_
theorem ne1 (k_:Bool→α) (N:Nat) (uX vc vd ve:Int) (vf sX:Rows) (m_:Nat):xe ke k_ N uX vc vd ve vf sX (m_+1)=TX ke k_ uX vc vd ve vf sX (xe ke k_ N uX vc vd ve vf sX m_):=rfl
def XO {α:Type} (ke:α) (k_:Bool→α) (l0:Int→Int→Int→Int→Rows→Rows→Int→Int→Rows→α) (q:nh):α:=
 bif bif !(tx q.Ring) then true else bif !(qB q.nI) then true else !(nf q.Next 0 65535) then k_ false
 else l0 q.Ring.nL q.nI.oG q.nI.nL q.nI.Count q.nI.oB q.nr 0 0 []
def no2 (k_:Bool→α) (N:Nat) (q:nh):α:=XO ke k_ (fun uX vc vd ve vf sX=>xe ke k_ N uX vc vd ve vf sX N) q
theorem nAc (k_:Bool→α) (q:nh) (h_q:kc nh.ct q.enc) (aJ:zx q=true):∃N,no2 ke k_ N q=k_ (Sg q):=by
 have hq:zx q=true:=aJ
 obtain⟨hf,hwn,hbn⟩:=nA5 hq
 obtain⟨hl,hw⟩:=oh (nh.vR h_q)
 refine⟨q.nr.length+1, ?_⟩
 unfold no2 XO Sg
 refine pQ (fun _=>rfl) (fun hg=> ?_)
 have hn:2≤q.Ring.nL∧q.Ring.nL≤16:=by
  cases h1:tx q.Ring
  ·rw[h1] at hg;cases hg
  exact OE h1
 have nCK:∀all:Rows,all.length≤16777216→Uf q.nI all=true:=by
  intro all h
  have:=sd hf
  simp only[Uf,hf,Bool.true_and,decide_eq_true_eq]
  omega
 have key:xe ke k_ (q.nr.length+1) q.Ring.nL q.nI.oG q.nI.nL q.nI.Count q.nI.oB q.nr (q.nr.length+1) 0 0 []=Qj (txP q.Ring.nL) txF (k_ false) (fun s=>k_ (bif (qp q.nI s.2).2 then decide (s.1≤q.Ring.nL) else false)) q.nr (0,[]):=by
  refine ZZ q.nr (fun n i (s:Int×Rows)=>xe ke k_ (q.nr.length+1) q.Ring.nL q.nI.oG q.nI.nL q.nI.Count q.nI.oB q.nr n s.1 i s.2) (txP q.Ring.nL) txF (k_ false) (fun s=>k_ (bif (qp q.nI s.2).2 then decide (s.1≤q.Ring.nL) else false)) (fun i s=>0≤s.1∧s.1≤16*(i:Int)∧s.2.length+ns9 (q.nr.drop i)≤16777216) ?_ ?_ ?_ (0,[]) ⟨by simp,by simp,by simpa using hbn⟩
  ·intro i s h hi hp
   have hb:=nfC h
   obtain⟨i1,i2,i3⟩:=hi
   have h1:wA q.Ring.nL (nth q.nr i)=true:=by simpa [txP] using hp
   have h2:=(Rk.1 h1).1
   refine⟨by simp only[txF];omega,by simp only[txF];omega, ?_⟩
   simp only[txF,List.length_append]
   omega
  ·intro n i s h hi
   obtain⟨i1,i2,i3⟩:=hi
   have hb:=nfC h
   show xe ke k_ (q.nr.length+1) q.Ring.nL q.nI.oG q.nI.nL q.nI.Count q.nI.oB q.nr (n+1) s.1 (i:Int) s.2=_
   rw[ne1]
   have hr:oY 8 s.2 (rR (nth q.nr i) 2)=true:=ry (by omega) (by omega)
   simp only[TX,oL h,nT h,oa h hl,Int.toNat_natCast,ng,nm,cond_true,hr,txP]
   have hc:(bif !(nf (rI (nth q.nr i) 1) 1 q.Ring.nL) then true else !(nf (rI (nth q.nr i) 0) 0 65535))= !(wA q.Ring.nL (nth q.nr i)):=by
    unfold wA
    cases nf (rI (nth q.nr i) 1) 1 q.Ring.nL<;>rfl
   rw[hc]
   refine cond_congr rfl (fun _=>rfl) (fun hp=> ?_)
   have h1:wA q.Ring.nL (nth q.nr i)=true:=by simpa using hp
   have h2:=(Rk.1 h1).1
   rw[nQ (n:=s.1+rI (nth q.nr i) 1) (by omega) (by omega)]
   rfl
  ·intro n s hi
   obtain⟨i1,i2,i3⟩:=hi
   show xe ke k_ (q.nr.length+1) q.Ring.nL q.nI.oG q.nI.nL q.nI.Count q.nI.oB q.nr (n+1) s.1 (q.nr.length:Int) s.2=_
   rw[ne1]
   have hg:Uf (⟨q.nI.oG,q.nI.nL,q.nI.Count,q.nI.oB⟩:nv) s.2=true:=nCK s.2 (by omega)
   simp only[TX,nN,cond_false,hg,ng,cond_true]
 refine key.trans ?_
 refine (nB4 q.Ring.nL (k_ false) (fun s=>k_ (bif (qp q.nI s.2).2 then decide (s.1≤q.Ring.nL) else false)) q.nr (0,[])).trans ?_
 simp only[List.nil_append,Int.zero_add]
 exact J5 rfl rfl
def QB (k_:Int→α) (x:Int) (oc:Rows) (oD:Int→Int→α) (n nX:Int):α:=
 bif decide (nX<x) then
  bif Eb (Eb true (idx nX oc)) (inl (Int.toNat nX) oc) then
   bif Eb true (ON (rI (nth oc (Int.toNat nX)) 0) 8) then
    oD (nM (n+(naJ (rI (nth oc (Int.toNat nX)) 0) 8))) (nM (nX+1))
   else ke
  else ke
 else k_ (Int.tmod n 8)
def tb (k_:Int→α) (N:Nat) (x:Int) (oc:Rows) (m_:Nat):Int→Int→α:=
 Nat.rec (motive:=fun _=>Int→Int→α) (fun _ _=>ke) (fun _ oD=>QB ke k_ x oc oD) m_
theorem Uo (k_:Int→α) (N:Nat) (x:Int) (oc:Rows) (m_:Nat):tb ke k_ N x oc (m_+1)=QB ke k_ x oc (tb ke k_ N x oc m_):=rfl
def Nr {α:Type} (ke:α) (k_:Int→α) (l0:Int→Rows→Int→Int→α) (f:nP):α:=
 l0 5 ([[.int f.Kind],[.int f.ql],[.int f.qK],[.int f.oN],[.int f.oM]]) 0 0
def nbc (k_:Int→α) (N:Nat) (f:nP):α:=Nr ke k_ (fun x oc=>tb ke k_ N x oc N) f
def hmL (f:nP):Rows:=[[.int f.Kind],[.int f.ql],[.int f.qK],[.int f.oN],[.int f.oM]]
def hmN (f:nP):Int:=f.Kind % 8+f.ql % 8+f.qK % 8+f.oN % 8+f.oM % 8
def qF (f:nP):Int:=hmN f % 8
theorem noJ (f:nP):0≤hmN f:=by unfold hmN;omega
theorem nag (f:nP):0≤qF f∧qF f<8:=by unfold qF;omega
theorem noI (f:nP):itN (fun i s=>s+(rI (nth (hmL f) i) 0) % 8) 5 0 0=hmN f:=by
 show 0+f.Kind % 8+f.ql % 8+f.qK % 8+f.oN % 8+f.oM % 8=hmN f
 unfold hmN
 omega
theorem npm (k_:Int→α) (f:nP) (h_f:kc nP.ct f.enc):∃N,nbc ke k_ N f=k_ (qF f):=by
 have hb:∀i,i<5→ -9223372036854775808≤rI (nth (hmL f) i) 0∧rI (nth (hmL f) i) 0≤9223372036854775807:=by
  intro i hi
  rcases i with _ | _ | _ | _ | _ | i
  ·exact xG (nP.nsW h_f)
  ·exact xG (nP.nmb h_f)
  ·exact xG (nP.nv8 h_f)
  ·exact xG (nP.njA h_f)
  ·exact xG (nP.njy h_f)
  ·omega
 refine⟨6, ?_⟩
 unfold nbc Nr
 have key:tb ke k_ 6 5 (hmL f) 6 0 0=k_ (Int.tmod (itN (fun i s=>s+(rI (nth (hmL f) i) 0) % 8) 5 0 0) 8):=by
  refine Nb 5 (fun n i s=>tb ke k_ 6 5 (hmL f) n s i) (fun i s=>s+(rI (nth (hmL f) i) 0) % 8) (fun s=>k_ (Int.tmod s 8)) (fun i s=>0≤s∧s≤7*(i:Int)) ?_ ?_ ?_ 6 0 ⟨by omega,by omega⟩ (by omega)
  ·intro i s hi hs
   obtain⟨h1,h2⟩:=hs
   refine⟨by omega,by omega⟩
  ·intro n i s hi hs
   obtain⟨h1,h2⟩:=hs
   have b:=hb i hi
   show tb ke k_ 6 5 (hmL f) (n+1) s (i:Int)=_
   rw[Uo]
   have hl:i<(hmL f).length:=hi
   have w1:nM ((i:Int)+1)=(i:Int)+1:=nQ (by omega) (by omega)
   have w2:nM (s+(rI (nth (hmL f) i) 0) % 8)=s+(rI (nth (hmL f) i) 0) % 8:=nQ (by omega) (by omega)
   obtain⟨m1,m2⟩:=naK (x:=rI (nth (hmL f) i) 0) (n:=8) b.1 b.2 (by omega) (by omega)
   have hd:decide ((i:Int)<5)=true:=decide_eq_true (by omega)
   simp only[QB,hd,nT hl,sZ hl,Int.toNat_natCast,m1,m2,w1,w2,ng,nm,cond_true]
  ·intro n s hs
   show tb ke k_ 6 5 (hmL f) (n+1) s ((5:Nat):Int)=_
   rw[Uo]
   rfl
 refine key.trans ?_
 rw[noI]
 exact congrArg k_ (Int.tmod_eq_emod_of_nonneg (noJ f))
def Rl (k_:Int→α) (list_:Rows) (oD:Int→Int→α) (n k:Int):α:=
 bif decide (k<len list_) then
  bif Eb (Eb true (idx k list_)) (inl (Int.toNat k) list_) then
   oD (nM (n+(bits .and .i64 (rI (nth list_ (Int.toNat k)) 0) 7))) (nM (k+1))
  else ke
 else k_ (Int.tmod n 8)
def tg (k_:Int→α) (N:Nat) (list_:Rows) (m_:Nat):Int→Int→α:=
 Nat.rec (motive:=fun _=>Int→Int→α) (fun _ _=>ke) (fun _ oD=>Rl ke k_ list_ oD) m_
theorem VR (k_:Int→α) (N:Nat) (list_:Rows) (m_:Nat):tg ke k_ N list_ (m_+1)=Rl ke k_ list_ (tg ke k_ N list_ m_):=rfl
def SZ {α:Type} (ke:α) (k_:Int→α) (l0:Rows→Int→Int→α) (f:nP):α:=
 l0 ([[.int f.Kind],[.int f.ql],[.int f.qK],[.int f.oN],[.int f.oM]]) 0 0
def ncy (k_:Int→α) (N:Nat) (f:nP):α:=SZ ke k_ (fun list_=>tg ke k_ N list_ N) f
theorem nr2 (k_:Int→α) (f:nP) (h_f:kc nP.ct f.enc):∃N,ncy ke k_ N f=k_ (qF f):=by
 have hb:∀i,i<5→ -9223372036854775808≤rI (nth (hmL f) i) 0∧rI (nth (hmL f) i) 0≤9223372036854775807:=by
  intro i hi
  rcases i with _ | _ | _ | _ | _ | i
  ·exact xG (nP.nsW h_f)
  ·exact xG (nP.nmb h_f)
  ·exact xG (nP.nv8 h_f)
  ·exact xG (nP.njA h_f)
  ·exact xG (nP.njy h_f)
  ·omega
 refine⟨6, ?_⟩
 unfold ncy SZ
 have key:tg ke k_ 6 (hmL f) 6 0 0=k_ (Int.tmod (itN (fun i s=>s+(rI (nth (hmL f) i) 0) % 8) 5 0 0) 8):=by
  refine Nb 5 (fun n i s=>tg ke k_ 6 (hmL f) n s i) (fun i s=>s+(rI (nth (hmL f) i) 0) % 8) (fun s=>k_ (Int.tmod s 8)) (fun i s=>0≤s∧s≤7*(i:Int)) ?_ ?_ ?_ 6 0 ⟨by omega,by omega⟩ (by omega)
  ·intro i s hi hs
   obtain⟨h1,h2⟩:=hs
   refine⟨by omega,by omega⟩
  ·intro n i s hi hs
   obtain⟨h1,h2⟩:=hs
   have b:=hb i hi
   show tg ke k_ 6 (hmL f) (n+1) s (i:Int)=_
   rw[VR]
   have hl:i<(hmL f).length:=hi
   have w1:nM ((i:Int)+1)=(i:Int)+1:=nQ (by omega) (by omega)
   have w2:nM (s+(rI (nth (hmL f) i) 0) % 8)=s+(rI (nth (hmL f) i) 0) % 8:=nQ (by omega) (by omega)
   have hd:decide ((i:Int)<len (hmL f))=true:=oL hl
   simp only[Rl,hd,nT hl,sZ hl,Int.toNat_natCast,nCu,w1,w2,ng,nm,cond_true]
  ·intro n s hs
   show tg ke k_ 6 (hmL f) (n+1) s ((5:Nat):Int)=_
   rw[VR]
   rfl
 refine key.trans ?_
 rw[noI]
 exact congrArg k_ (Int.tmod_eq_emod_of_nonneg (noJ f))
def Pz (k_:Int→α) (x:Rows) (nX wG Rv uV Te Tf:Int) (oD:Int→α) (oc:Int):α:=
 bif decide (oc<nX) then
  bif Eb true (idx oc x) then
   bif bif (rI (nth x (Int.toNat oc)) 0)==1 then bif (rI (nth x (Int.toNat oc)) 1)==wG then bif (rI (nth x (Int.toNat oc)) 2)==Rv then bif (rI (nth x (Int.toNat oc)) 3)==uV then bif (rI (nth x (Int.toNat oc)) 4)==Te then bif (rI (nth x (Int.toNat oc)) 5)==Tf then true else false else false else false else false else false else false then k_ oc
   else oD (nM (oc+1))
  else ke
 else k_ (-1)
def yA (k_:Int→α) (N:Nat) (x:Rows) (nX wG Rv uV Te Tf:Int) (m_:Nat):Int→α:=
 Nat.rec (motive:=fun _=>Int→α) (fun _=>ke) (fun _ oD=>Pz ke k_ x nX wG Rv uV Te Tf oD) m_
theorem YG (k_:Int→α) (N:Nat) (x:Rows) (nX wG Rv uV Te Tf:Int) (m_:Nat):yA ke k_ N x nX wG Rv uV Te Tf (m_+1)=Pz ke k_ x nX wG Rv uV Te Tf (yA ke k_ N x nX wG Rv uV Te Tf m_):=rfl
def RE {α:Type} (ke:α) (k_:Int→α) (l0:Rows→Int→Int→Int→Int→Int→Int→Int→α) (t:ni) (f:nP):α:=
 l0 t.nF (len t.nF) f.Kind f.ql f.qK f.oN f.oM 0
def ngR (k_:Int→α) (N:Nat) (t:ni) (f:nP):α:=RE ke k_ (fun x nX wG Rv uV Te Tf=>yA ke k_ N x nX wG Rv uV Te Tf N) t f
def vQ (r:List DC) (f:nP):Bool:=bif (rI r 0)==1 then bif (rI r 1)==f.Kind then bif (rI r 2)==f.ql then bif (rI r 3)==f.qK then bif (rI r 4)==f.oN then bif (rI r 5)==f.oM then true else false else false else false else false else false else false
def ni4 (t:ni) (f:nP):Int:=findIdx (fun _ r=>vQ r f) t.nF 0
theorem nwJ (k_:Int→α) (t:ni) (f:nP) (h_t:kc ni.ct t.enc):∃N,ngR ke k_ N t f=k_ (ni4 t f):=by
 obtain⟨hl,_⟩:=oh (ni.Wo h_t)
 refine⟨t.nF.length+1, ?_⟩
 unfold ngR RE ni4
 have key:yA ke k_ (t.nF.length+1) t.nF (len t.nF) f.Kind f.ql f.qK f.oN f.oM (t.nF.length+1) 0=k_ (findIdx (fun _ r=>vQ r f) t.nF 0):=by
  refine (qS t.nF (yA ke k_ (t.nF.length+1) t.nF (len t.nF) f.Kind f.ql f.qK f.oN f.oM) (fun i r c=>bif vQ r f then k_ (i:Int) else c) (k_ (-1)) ?_ ?_).trans ?_
  ·intro n i h
   rw[YG]
   simp only[Pz,oL h,nT h,oa h hl,Int.toNat_natCast,ng,nm,cond_true]
   rfl
  ·intro n
   rw[YG]
   simp only[Pz,nN,cond_false]
  ·exact nar (fun _ r=>vQ r f) k_ t.nF 0
 exact key
def S_ (k_:Int→α) (tq:Rows) (wG Rv uV Te Tf:Int) (oD:Int→α) (k:Int):α:=
 let z0:Int:=Int.tmod (nM ((qF (⟨wG,Rv,uV,Te,Tf⟩:nP))+k)) 8
 let z1:Bool:=idx z0 tq
 let z2:Bool:=Eb true z1
 let z3:List DC:=nth tq (Int.toNat z0)
 let z4:Int:=rI z3 0
 let z5:Bool:=z4==1
 bif decide (k<8) then
  bif z2 then
   bif z4==0 then k_ (-1)
   else bif LV z5 (Eb z2 z1) z2 then
     bif bif z5 then bif (rI z3 1)==wG then bif (rI z3 2)==Rv then bif (rI z3 3)==uV then bif (rI z3 4)==Te then bif (rI z3 5)==Tf then true else false else false else false else false else false else false then k_ z0
     else oD (nM (k+1))
    else ke
  else ke
 else k_ (-1)
def tR (k_:Int→α) (N:Nat) (tq:Rows) (wG Rv uV Te Tf:Int) (m_:Nat):Int→α:=
 Nat.rec (motive:=fun _=>Int→α) (fun _=>ke) (fun _ oD=>S_ ke k_ tq wG Rv uV Te Tf oD) m_
theorem XS (k_:Int→α) (N:Nat) (tq:Rows) (wG Rv uV Te Tf:Int) (m_:Nat):tR ke k_ N tq wG Rv uV Te Tf (m_+1)=S_ ke k_ tq wG Rv uV Te Tf (tR ke k_ N tq wG Rv uV Te Tf m_):=rfl
def Qd {α:Type} (ke:α) (k_:Int→α) (l0:Rows→Int→Int→Int→Int→Int→Int→α) (t:ni) (f:nP):α:=
 l0 t.nF f.Kind f.ql f.qK f.oN f.oM 0
def ne9 (k_:Int→α) (N:Nat) (t:ni) (f:nP):α:=Qd ke k_ (fun tq wG Rv uV Te Tf=>tR ke k_ N tq wG Rv uV Te Tf N) t f
def nAT (t:ni) (_:nP):Bool:=decide (t.nF.length=8)
def ny3 (t:Rows) (h:Int) (f:nP):Nat→Nat→Int
 | 0,_=> -1
 | m+1,k=>bif (rI (nth t (Int.toNat ((h+(k:Int)) % 8))) 0)==0 then -1 else bif vQ (nth t (Int.toNat ((h+(k:Int)) % 8))) f then (h+(k:Int)) % 8 else ny3 t h f m (k+1)
def naD (t:ni) (f:nP):Int:=ny3 t.nF (qF f) f 8 0
theorem nBM {α:Type} (k_:Int→α) (t:Rows) (h:Int) (f:nP):∀(m i:Nat),noU (σ:=Unit) (fun k c s=>bif (rI (nth t (Int.toNat ((h+(k:Int)) % 8))) 0)==0 then k_ (-1) else bif vQ (nth t (Int.toNat ((h+(k:Int)) % 8))) f then k_ ((h+(k:Int)) % 8) else c s) (fun _=>k_ (-1)) m i ()=k_ (ny3 t h f m i)
 | 0,_=>rfl
 | m+1,i=>by
  simp only[noU,ny3]
  cases (rI (nth t (Int.toNat ((h+(i:Int)) % 8))) 0)==0
  ·cases vQ (nth t (Int.toNat ((h+(i:Int)) % 8))) f
   ·exact nBM k_ t h f m (i+1)
   ·rfl
  ·rfl
theorem nvG (k_:Int→α) (t:ni) (f:nP) (aJ:nAT t f=true):∃N,ne9 ke k_ N t f=k_ (naD t f):=by
 have h8:t.nF.length=8:=of_decide_eq_true aJ
 have hh:=nag f
 refine⟨9, ?_⟩
 unfold ne9 Qd naD
 have key:tR ke k_ 9 t.nF f.Kind f.ql f.qK f.oN f.oM 9 0=k_ (ny3 t.nF (qF f) f 8 0):=by
  refine (nlC (σ:=Unit) 8 (fun n k _=>tR ke k_ 9 t.nF f.Kind f.ql f.qK f.oN f.oM n k) (fun k c s=>bif (rI (nth t.nF (Int.toNat ((qF f+(k:Int)) % 8))) 0)==0 then k_ (-1) else bif vQ (nth t.nF (Int.toNat ((qF f+(k:Int)) % 8))) f then k_ ((qF f+(k:Int)) % 8) else c s) (fun _=>k_ (-1)) ?_ ?_ 9 () (by omega)).trans (nBM k_ t.nF (qF f) f 8 0)
  ·intro n i s hi
   show tR ke k_ 9 t.nF f.Kind f.ql f.qK f.oN f.oM (n+1) (i:Int)=_
   rw[XS]
   have hd:decide ((i:Int)<8)=true:=decide_eq_true (by omega)
   have w1:nM ((i:Int)+1)=(i:Int)+1:=nQ (by omega) (by omega)
   have hz:Int.tmod (nM (qF f+(i:Int))) 8=(qF f+(i:Int)) % 8:=by
    rw[nQ (by omega) (by omega)]
    exact Int.tmod_eq_emod_of_nonneg (by omega)
   have hx:idx ((qF f+(i:Int)) % 8) t.nF=true:=by
    simp only[idx,Bool.and_eq_true,decide_eq_true_eq,h8]
    omega
   have hf:(⟨f.Kind,f.ql,f.qK,f.oN,f.oM⟩:nP)=f:=rfl
   unfold S_
   simp only[hf,hd,hz,hx,w1,ng,nm,zG,cond_true]
   rfl
  ·intro n s
   show tR ke k_ 9 t.nF f.Kind f.ql f.qK f.oN f.oM (n+1) ((8:Nat):Int)=_
   rw[XS]
   rfl
 exact key
def X_ (k_:Rows→α) (wG Rv uV Te Tf:Int) (oD:Int→Rows→α) (i:Int) (nV:Rows):α:=
 bif decide (i<8) then
  bif Eb true (oY 8 nV ([[.int (Int.tmod (nM ((qF (⟨wG,Rv,uV,Te,Tf⟩:nP))+i)) 8)]])) then
   oD (nM (i+1)) (nV++([[.int (Int.tmod (nM ((qF (⟨wG,Rv,uV,Te,Tf⟩:nP))+i)) 8)]]))
  else ke
 else k_ nV
def vH (k_:Rows→α) (N:Nat) (wG Rv uV Te Tf:Int) (m_:Nat):Int→Rows→α:=
 Nat.rec (motive:=fun _=>Int→Rows→α) (fun _ _=>ke) (fun _ oD=>X_ ke k_ wG Rv uV Te Tf oD) m_
theorem nbJ (k_:Rows→α) (N:Nat) (wG Rv uV Te Tf:Int) (m_:Nat):vH ke k_ N wG Rv uV Te Tf (m_+1)=X_ ke k_ wG Rv uV Te Tf (vH ke k_ N wG Rv uV Te Tf m_):=rfl
def TW {α:Type} (ke:α) (k_:Rows→α) (l0:Int→Int→Int→Int→Int→Int→Rows→α) (f:nP):α:=
 l0 f.Kind f.ql f.qK f.oN f.oM 0 []
def nkl (k_:Rows→α) (N:Nat) (f:nP):α:=TW ke k_ (fun wG Rv uV Te Tf=>vH ke k_ N wG Rv uV Te Tf N) f
def nCm (h:Int) (i:Nat) (o:Rows):Rows:=o++[[.int ((h+(i:Int)) % 8)]]
def TS (f:nP):Rows:=itN (nCm (qF f)) 8 0 []
theorem nyY (k_:Rows→α) (f:nP):∃N,nkl ke k_ N f=k_ (TS f):=by
 have hh:=nag f
 refine⟨9, ?_⟩
 unfold nkl TW TS
 have key:vH ke k_ 9 f.Kind f.ql f.qK f.oN f.oM 9 0 []=k_ (itN (nCm (qF f)) 8 0 []):=by
  refine Nb 8 (fun n i o=>vH ke k_ 9 f.Kind f.ql f.qK f.oN f.oM n i o) (nCm (qF f)) k_ (fun i o=>o.length=i) ?_ ?_ ?_ 9 [] rfl (by omega)
  ·intro i o hi ho
   simp only[nCm,List.length_append,List.length_cons,List.length_nil,ho]
  ·intro n i o hi ho
   show vH ke k_ 9 f.Kind f.ql f.qK f.oN f.oM (n+1) (i:Int) o=_
   rw[nbJ]
   have hd:decide ((i:Int)<8)=true:=decide_eq_true (by omega)
   have w1:nM ((i:Int)+1)=(i:Int)+1:=nQ (by omega) (by omega)
   have hz:Int.tmod (nM (qF f+(i:Int))) 8=(qF f+(i:Int)) % 8:=by
    rw[nQ (by omega) (by omega)]
    exact Int.tmod_eq_emod_of_nonneg (by omega)
   have hf:(⟨f.Kind,f.ql,f.qK,f.oN,f.oM⟩:nP)=f:=rfl
   have hr:oY 8 o [[.int ((qF f+(i:Int)) % 8)]]=true:=ry (by simp only[List.length_cons,List.length_nil];omega) (by omega)
   unfold X_
   simp only[hf,hd,hz,hr,w1,ng,nm,cond_true]
   rfl
  ·intro n o ho
   show vH ke k_ 9 f.Kind f.ql f.qK f.oN f.oM (n+1) ((8:Nat):Int) o=_
   rw[nbJ]
   rfl
 exact key
def xk (k_:Bool→α) (l1:Int→Int→Int→Rows→Int→α) (x:Rows) (nX:Int) (tq:Rows) (oD:Int→α) (oc:Int):α:=
 let z0:Rows:=TS (nP.nd (nth x (Int.toNat oc)) 1)
 bif decide (oc<nX) then
  bif Eb true (idx oc x) then
   bif bif !(nf (rI (nth x (Int.toNat oc)) 0) 0 2) then true else !(nf (rI (nth x (Int.toNat oc)) 6) 0 3) then k_ false
   else bif (rI (nth x (Int.toNat oc)) 0) != 1 then
    bif bif !(bif (rI (nth x (Int.toNat oc)) 1)==0 then bif (rI (nth x (Int.toNat oc)) 2)==0 then bif (rI (nth x (Int.toNat oc)) 3)==0 then bif (rI (nth x (Int.toNat oc)) 4)==0 then bif (rI (nth x (Int.toNat oc)) 5)==0 then true else false else false else false else false else false) then true else (rI (nth x (Int.toNat oc)) 6) != 0 then k_ false
    else oD (nM (oc+1))
   else bif (ni4 (⟨tq⟩:ni) (nP.nd (nth x (Int.toNat oc)) 1)) != oc then k_ false
   else l1 oc oc (len z0) z0 0
  else ke
 else k_ true
def xl (k_:Bool→α) (oD:Int→α) (oc OD x_6:Int) (tq x_8:Rows) (ih1:Int→α) (x_7:Int):α:=
 bif decide (x_7<x_6) then
  bif Eb (Eb true (idx x_7 x_8)) (inl (Int.toNat x_7) x_8) then
   bif (rI (nth x_8 (Int.toNat x_7)) 0)==oc then oD (nM (OD+1))
   else bif Eb true (idx (rI (nth x_8 (Int.toNat x_7)) 0) tq) then
     bif (rI (nth tq (Int.toNat (rI (nth x_8 (Int.toNat x_7)) 0))) 0)==0 then k_ false
     else ih1 (nM (x_7+1))
    else ke
  else ke
 else oD (nM (OD+1))
def tN (k_:Bool→α) (N:Nat) (oD:Int→α) (oc OD x_6:Int) (tq x_8:Rows) (m_:Nat):Int→α:=
 Nat.rec (motive:=fun _=>Int→α) (fun _=>ke) (fun _ ih1=>xl ke k_ oD oc OD x_6 tq x_8 ih1) m_
theorem WJ (k_:Bool→α) (N:Nat) (oD:Int→α) (oc OD x_6:Int) (tq x_8:Rows) (m_:Nat) (x_7:Int):tN ke k_ N oD oc OD x_6 tq x_8 (m_+1) x_7=xl ke k_ oD oc OD x_6 tq x_8 (tN ke k_ N oD oc OD x_6 tq x_8 m_) x_7:=rfl
def sR (k_:Bool→α) (N:Nat) (x:Rows) (nX:Int) (tq:Rows) (m_:Nat):Int→α:=
 Nat.rec (motive:=fun _=>Int→α) (fun _=>ke) (fun _ oD=>xk ke k_ (fun oc OD x_6 x_8=>tN ke k_ N oD oc OD x_6 tq x_8 N) x nX tq oD) m_
theorem WI (k_:Bool→α) (N:Nat) (x:Rows) (nX:Int) (tq:Rows) (m_:Nat) (oc:Int):sR ke k_ N x nX tq (m_+1) oc=xk ke k_ (fun oc OD x_6 x_8=>tN ke k_ N (sR ke k_ N x nX tq m_) oc OD x_6 tq x_8 N) x nX tq (sR ke k_ N x nX tq m_) oc:=rfl
def Pu {α:Type} (ke:α) (k_:Bool→α) (l0:Rows→Int→Rows→Int→α) (t:ni):α:=
 bif (len t.nF) != 8 then k_ false
 else l0 t.nF (len t.nF) t.nF 0
def Pt (k_:Bool→α) (N:Nat) (t:ni):α:=Pu ke k_ (fun x nX tq=>sR ke k_ N x nX tq N) t
theorem nam {p:Nat→List DC→Bool} :∀ {l:Rows} {s:Nat},qn p l s=false→∀i,i<l.length→p (s+i) (nth l i)=false
 | [],_,_,i,h=>by simp at h
 | r::rs,s,h,i,hi=>by
  simp only[qn] at h
  cases hp:p s r
  ·rw[hp,cond_false] at h
   cases i with
   | zero=>exact hp
   | succ i=>
    have:=nam h i (by simpa using hi)
    rw[show s+(i+1)=s+1+i by omega]
    exact this
  ·rw[hp] at h
   cases h
theorem nhy {p:Nat→List DC→Bool} :∀ {l:Rows} {s:Nat},(∀i,i<l.length→p (s+i) (nth l i)=false)→qn p l s=false
 | [],_,_=>rfl
 | r::rs,s,h=>by
  simp only[qn]
  rw[show p s r=false from h 0 (by simp),cond_false]
  exact nhy (fun i hi=>by
   have:=h (i+1) (by simpa using hi)
   rw[show s+1+i=s+(i+1) by omega]
   exact this)
def noF (t:Rows) (i:Int):Rows→Bool
 | []=>false
 | r::rs=>bif (rI r 0)==i then false else bif (rI (nth t (Int.toNat (rI r 0))) 0)==0 then true else noF t i rs
theorem nBN {α:Type} (t:Rows) (x:Int) (A B:α):∀(l:Rows) (j:Nat),rO (σ:=Unit) (fun _ r c s=>bif (rI r 0)==x then A else bif (rI (nth t (Int.toNat (rI r 0))) 0)==0 then B else c s) (fun _=>A) l j ()=bif noF t x l then B else A
 | [],_=>rfl
 | r::rs,j=>by
  simp only[rO,noF]
  cases (rI r 0)==x
  ·cases (rI (nth t (Int.toNat (rI r 0))) 0)==0
   ·exact nBN t x A B rs (j+1)
   ·rfl
  ·rfl
def nyz (r:List DC):Bool:=bif (rI r 1)==0 then bif (rI r 2)==0 then bif (rI r 3)==0 then bif (rI r 4)==0 then bif (rI r 5)==0 then true else false else false else false else false else false
def nfp (r:List DC):Bool:=bif !(nf (rI r 0) 0 2) then true else !(nf (rI r 6) 0 3)
def ni3 (t:Rows) (i:Nat) (r:List DC):Bool:=bif nfp r then true else bif (rI r 0) != 1 then bif !(nyz r) then true else (rI r 6) != 0 else bif (ni4 (⟨t⟩:ni) (nP.nd r 1)) != (i:Int) then true else noF t (i:Int) (TS (nP.nd r 1))
def nuZ (t:Rows) (i:Nat) (r:List DC):Bool:=bif nfp r then true else bif (rI r 0) != 1 then bif (rI r 6) != 0 then true else !(nyz r) else (naD (⟨t⟩:ni) (nP.nd r 1)) != (i:Int)
def yK (t:ni):Bool:=bif (len t.nF) != 8 then false else bif qn (ni3 t.nF) t.nF 0 then false else true
def nAL (t:Rows) (h i:Int):Nat→Nat→Bool
 | 0,_=>false
 | m+1,k=>bif (h+(k:Int)) % 8==i then false else bif (rI (nth t (Int.toNat ((h+(k:Int)) % 8))) 0)==0 then true else nAL t h i m (k+1)
theorem nyv (t:Rows) (i:Int) (f:nP):noF t i (TS f)=nAL t (qF f) i 8 0:=rfl
theorem Wn {r:List DC} {f:nP} :vQ r f=true↔rI r 0=1∧nP.nd r 1=f:=by
 cases f with
 | mk a b c d e=>
  simp only[vQ,nP.nd,nP.mk.injEq]
  by_cases h0:rI r 0=1
  ·by_cases h1:rI r 1=a
   ·by_cases h2:rI r 2=b
    ·by_cases h3:rI r 3=c
     ·by_cases h4:rI r 4=d
      ·by_cases h5:rI r 5=e
       ·simp [h0,h1,h2,h3,h4,h5]
       ·simp [h0,h1,h2,h3,h4,h5]
      ·simp [h0,h1,h2,h3,h4]
     ·simp [h0,h1,h2,h3]
    ·simp [h0,h1,h2]
   ·simp [h0,h1]
  ·simp [h0]
theorem nAi {r:List DC} (h:rI r 0=1):vQ r (nP.nd r 1)=true:=Wn.2 ⟨h,rfl⟩
theorem nAj {t:Rows} {h:Int} {f:nP} {i:Nat} (hi:i<8) (h1:rI (nth t i) 0=1) (hf:nP.nd (nth t i) 1=f)
  (hu:∀j,j<8→vQ (nth t j) f=true→j=i):∀(m k:Nat),(∃d,d<m∧(h+(k:Int)+(d:Int)) % 8=(i:Int))→nAL t h (i:Int) m k=false→ny3 t h f m k=(i:Int)
 | 0,k,⟨d,hd,_⟩,_=>by omega
 | m+1,k,⟨d,hd,he⟩,hw=>by
  unfold ny3
  unfold nAL at hw
  by_cases hk:(h+(k:Int)) % 8=(i:Int)
  ·rw[hk,Int.toNat_natCast]
   have e0:((rI (nth t i) 0)==0)=false:=by rw[h1];rfl
   rw[e0,Wn.2 ⟨h1,hf⟩]
   rfl
  ·have e1:((h+(k:Int)) % 8==(i:Int))=false:=by simpa using hk
   rw[e1,cond_false] at hw
   cases e0:(rI (nth t (Int.toNat ((h+(k:Int)) % 8))) 0)==0
   ·rw[e0,cond_false] at hw
    cases e2:vQ (nth t (Int.toNat ((h+(k:Int)) % 8))) f
    ·simp only[cond_false]
     refine nAj hi h1 hf hu m (k+1) ⟨d - 1, ?_, ?_⟩ hw
     ·rcases d with _ | d
      ·exact absurd (by simpa using he) hk
      ·omega
     ·rcases d with _ | d
      ·exact absurd (by simpa using he) hk
      ·rw[←he]
       congr 1
       omega
    ·have:=hu _ (by omega) e2
     exact absurd (by omega) hk
   ·rw[e0] at hw
    cases hw
theorem nzB {t:Rows} {h:Int} {f:nP} {i:Nat} :∀(m k:Nat),ny3 t h f m k=(i:Int)→nAL t h (i:Int) m k=false
 | 0,_,_=>rfl
 | m+1,k,hl=>by
  unfold ny3 at hl
  unfold nAL
  cases e1:((h+(k:Int)) % 8==(i:Int))
  ·cases e0:(rI (nth t (Int.toNat ((h+(k:Int)) % 8))) 0)==0
   ·rw[e0,cond_false] at hl
    cases e2:vQ (nth t (Int.toNat ((h+(k:Int)) % 8))) f
    ·rw[e2,cond_false] at hl
     exact nzB m (k+1) hl
    ·rw[e2,cond_true] at hl
     have:((h+(k:Int)) % 8==(i:Int))=true:=by simpa using hl
     rw[e1] at this
     cases this
   ·rw[e0,cond_true] at hl
    omega
  ·rfl
theorem nA2 {t:Rows} {i:Nat} (h:i<t.length) (h1:rI (nth t i) 0=1):(ni4 (⟨t⟩:ni) (nP.nd (nth t i) 1) != (i:Int))=wh (fun j=>vQ (nth t j) (nP.nd (nth t i) 1)) i 0:=by
 have:=nhA (fun _ r=>vQ r (nP.nd (nth t i) 1)) t 0 i h (nAi h1)
 rw[Nat.zero_add] at this
 exact this
theorem nao {p:Nat→Bool} :∀ {m s:Nat},wh p m s=false↔∀j,s≤j→j<s+m→p j=false
 | 0,s=>by simp only[wh,true_iff];intro j h1 h2;omega
 | m+1,s=>by
  simp only[wh]
  cases hp:p s
  ·simp only[cond_false]
   rw[nao]
   constructor
   ·intro h j h1 h2
    by_cases hj:j=s
    ·rw[hj];exact hp
    ·exact h j (by omega) (by omega)
   ·intro h j h1 h2
    exact h j (by omega) (by omega)
  ·simp only[cond_true]
   constructor
   ·intro h;cases h
   ·intro h
    have:=h s (by omega) (by omega)
    rw[hp] at this
    cases this
theorem nBi {t:Rows} (h8:t.length=8):qn (nuZ t) t 0=qn (ni3 t) t 0:=by
 have zc:∀r:List DC,(bif !(nyz r) then true else (rI r 6) != 0)=(bif (rI r 6) != 0 then true else !(nyz r)):=by
  intro r
  cases nyz r<;>cases ((rI r 6) != 0)<;>rfl
 have sI:∀i,ni3 t i (nth t i)=false→rI (nth t i) 0=1→nfp (nth t i)=false∧wh (fun j=>vQ (nth t j) (nP.nd (nth t i) 1)) i 0=false∧nAL t (qF (nP.nd (nth t i) 1)) (i:Int) 8 0=false∨¬i<t.length:=by
  intro i h h1
  by_cases hi:i<t.length
  ·left
   unfold ni3 at h
   have e1:((rI (nth t i) 0) != 1)=false:=by rw[h1];rfl
   rw[e1,nA2 hi h1,nyv] at h
   cases hs:nfp (nth t i)
   ·rw[hs] at h
    simp only[cond_false] at h
    refine⟨rfl, ?_⟩
    cases ha:wh (fun j=>vQ (nth t j) (nP.nd (nth t i) 1)) i 0
    ·rw[ha,cond_false] at h
     exact⟨rfl,h⟩
    ·rw[ha] at h;cases h
   ·rw[hs] at h;cases h
  ·exact .inr hi
 have sS:∀i,i<t.length→nuZ t i (nth t i)=false→rI (nth t i) 0=1→nfp (nth t i)=false∧naD (⟨t⟩:ni) (nP.nd (nth t i) 1)=(i:Int):=by
  intro i hi h h1
  unfold nuZ at h
  have e1:((rI (nth t i) 0) != 1)=false:=by rw[h1];rfl
  rw[e1] at h
  cases hs:nfp (nth t i)
  ·rw[hs] at h
   simp only[cond_false] at h
   exact⟨rfl,by simpa using h⟩
  ·rw[hs] at h;cases h
 cases hI:qn (ni3 t) t 0
 ·have hI:=nam hI
  simp only[Nat.zero_add] at hI
  refine nhy (fun i hi=> ?_)
  rw[Nat.zero_add]
  by_cases h1:rI (nth t i) 0=1
  ·rcases sI i (hI i hi) h1 with ⟨a,b,c⟩ | h
   ·have hu:∀j,j<8→vQ (nth t j) (nP.nd (nth t i) 1)=true→j=i:=by
     intro j hj hq
     obtain⟨j1,j2⟩:=Wn.1 hq
     rcases Nat.lt_trichotomy j i with cn | rfl | FV
     ·have:=nao.1 b j (by omega) (by omega)
      rw[hq] at this
      cases this
     ·rfl
     ·rcases sI j (hI j (by omega)) j1 with ⟨_,b',_⟩ | h
      ·have:=nao.1 b' i (by omega) (by omega)
       rw[Wn.2 ⟨h1,j2.symm⟩] at this
       cases this
      ·omega
    have hf:naD (⟨t⟩:ni) (nP.nd (nth t i) 1)=(i:Int):=by
     have hh:=nag (nP.nd (nth t i) 1)
     refine nAj (by omega) h1 rfl hu 8 0 ⟨(((i:Int) - qF (nP.nd (nth t i) 1)) % 8).toNat,by omega,by omega⟩ c
    unfold nuZ
    rw[a,hf,h1]
    simp
   ·exact absurd hi h
  ·have:=hI i hi
   unfold ni3 at this
   unfold nuZ
   have e1:((rI (nth t i) 0) != 1)=true:=by simpa using h1
   rw[e1] at this ⊢
   rw[zc] at this
   exact this
 ·cases hS:qn (nuZ t) t 0
  ·have hS:=nam hS
   simp only[Nat.zero_add] at hS
   have:qn (ni3 t) t 0=false:=by
    refine nhy (fun i hi=> ?_)
    rw[Nat.zero_add]
    by_cases h1:rI (nth t i) 0=1
    ·obtain⟨a,b⟩:=sS i hi (hS i hi) h1
     have hu:wh (fun j=>vQ (nth t j) (nP.nd (nth t i) 1)) i 0=false:=by
      refine nao.2 (fun j _ hj=> ?_)
      cases hq:vQ (nth t j) (nP.nd (nth t i) 1)
      ·rfl
      ·obtain⟨j1,j2⟩:=Wn.1 hq
       have:=(sS j (by omega) (hS j (by omega)) j1).2
       rw[j2,b] at this
       omega
     unfold ni3
     have e1:((rI (nth t i) 0) != 1)=false:=by rw[h1];rfl
     rw[a,e1,nA2 hi h1,hu,nyv,nzB 8 0 b]
     rfl
    ·have:=hS i hi
     unfold nuZ at this
     unfold ni3
     have e1:((rI (nth t i) 0) != 1)=true:=by simpa using h1
     rw[e1] at this ⊢
     rw[zc]
     exact this
   rw[hI] at this
   cases this
  ·rfl
theorem ntK (k_:Bool→α) (t:ni) (h_t:kc ni.ct t.enc):∃N,Pt ke k_ N t=k_ (yK t):=by
 obtain⟨hl,_⟩:=oh (ni.Wo h_t)
 refine⟨t.nF.length+9, ?_⟩
 unfold Pt Pu yK
 refine pQ (fun _=>rfl) (fun hg=> ?_)
 have h8:t.nF.length=8:=by
  have:len t.nF=8:=by simpa using hg
  simp only[len] at this
  omega
 have key:sR ke k_ (t.nF.length+9) t.nF (len t.nF) t.nF (t.nF.length+9) 0=bif qn (ni3 t.nF) t.nF 0 then k_ false else k_ true:=by
  refine (vL t.nF (sR ke k_ (t.nF.length+9) t.nF (len t.nF) t.nF) (fun i r c=>bif ni3 t.nF i r then k_ false else c) (k_ true) ?_ ?_ (t.nF.length+9) (by omega)).trans (wi (ni3 t.nF) (k_ false) (k_ true) t.nF 0)
  ·intro n i h
   rw[WI]
   have hc:∀z:Int,rI (nth t.nF i) 0=z→True:=fun _ _=>trivial
   have hw8:(TS (nP.nd (nth t.nF i) 1)).length=8:=rfl
   have inner:∀ih:Int→α,tN ke k_ (t.nF.length+9) ih (i:Int) (i:Int) (len (TS (nP.nd (nth t.nF i) 1))) t.nF (TS (nP.nd (nth t.nF i) 1)) (t.nF.length+9) 0=bif noF t.nF (i:Int) (TS (nP.nd (nth t.nF i) 1)) then k_ false else ih ((i:Int)+1):=by
    intro ih
    refine (vL (TS (nP.nd (nth t.nF i) 1)) (tN ke k_ (t.nF.length+9) ih (i:Int) (i:Int) (len (TS (nP.nd (nth t.nF i) 1))) t.nF (TS (nP.nd (nth t.nF i) 1))) (fun j r c=>bif (rI r 0)==(i:Int) then ih ((i:Int)+1) else bif (rI (nth t.nF (Int.toNat (rI r 0))) 0)==0 then k_ false else c) (ih ((i:Int)+1)) ?_ ?_ (t.nF.length+9) (by omega)).trans (nBN t.nF (i:Int) (ih ((i:Int)+1)) (k_ false) (TS (nP.nd (nth t.nF i) 1)) 0)
    ·intro n j hj
     rw[WJ]
     have hx:idx (rI (nth (TS (nP.nd (nth t.nF i) 1)) j) 0) t.nF=true:=by
      have:rI (nth (TS (nP.nd (nth t.nF i) 1)) j) 0=(qF (nP.nd (nth t.nF i) 1)+(j:Int)) % 8:=by
       rw[hw8] at hj
       rcases j with _ | _ | _ | _ | _ | _ | _ | _ | j
       all_goals first | rfl | omega
      rw[this]
      simp only[idx,Bool.and_eq_true,decide_eq_true_eq,h8]
      omega
     have w1:nM ((i:Int)+1)=(i:Int)+1:=oa h hl
     have w2:nM ((j:Int)+1)=(j:Int)+1:=nQ (by omega) (by omega)
     simp only[xl,oL hj,nT hj,sZ hj,hx,w1,w2,Int.toNat_natCast,ng,nm,cond_true]
    ·intro n
     rw[WJ]
     simp only[xl,nN,cond_false,oa h hl]
   unfold xk
   simp only[inner,oL h,nT h,oa h hl,Int.toNat_natCast,ng,nm,cond_true]
   unfold ni3
   show (bif nfp (nth t.nF i) then k_ false else _)=_
   cases nfp (nth t.nF i)
   ·simp only[cond_false]
    cases ((rI (nth t.nF i) 0) != 1)
    ·simp only[cond_false]
     cases (ni4 (⟨t.nF⟩:ni) (nP.nd (nth t.nF i) 1) != (i:Int))<;>rfl
    ·rfl
   ·rfl
  ·intro n
   rw[WI]
   simp only[xk,nN,cond_false]
 refine key.trans ?_
 exact J5 rfl rfl
def N6 (k_:Bool→α) (tq:Rows) (oD:Int→α) (k:Int):α:=
 bif decide (k<len tq) then
  bif Eb true (idx k tq) then
   bif bif !(nf (rI (nth tq (Int.toNat k)) 0) 0 2) then true else !(nf (rI (nth tq (Int.toNat k)) 6) 0 3) then k_ false
   else bif (rI (nth tq (Int.toNat k)) 0) != 1 then
    bif bif (rI (nth tq (Int.toNat k)) 6) != 0 then true else !(bif (rI (nth tq (Int.toNat k)) 1)==0 then bif (rI (nth tq (Int.toNat k)) 2)==0 then bif (rI (nth tq (Int.toNat k)) 3)==0 then bif (rI (nth tq (Int.toNat k)) 4)==0 then bif (rI (nth tq (Int.toNat k)) 5)==0 then true else false else false else false else false else false) then k_ false
    else oD (nM (k+1))
   else bif Eb true (nAT (⟨tq⟩:ni) (nP.nd (nth tq (Int.toNat k)) 1)) then
     bif (naD (⟨tq⟩:ni) (nP.nd (nth tq (Int.toNat k)) 1)) != k then k_ false
     else oD (nM (k+1))
    else ke
  else ke
 else k_ true
def xy (k_:Bool→α) (N:Nat) (tq:Rows) (m_:Nat):Int→α:=
 Nat.rec (motive:=fun _=>Int→α) (fun _=>ke) (fun _ oD=>N6 ke k_ tq oD) m_
theorem XM (k_:Bool→α) (N:Nat) (tq:Rows) (m_:Nat):xy ke k_ N tq (m_+1)=N6 ke k_ tq (xy ke k_ N tq m_):=rfl
def V2 {α:Type} (ke:α) (k_:Bool→α) (l0:Rows→Int→α) (t:ni):α:=
 bif (len t.nF) != 8 then k_ false
 else l0 t.nF 0
def neZ (k_:Bool→α) (N:Nat) (t:ni):α:=V2 ke k_ (fun tq=>xy ke k_ N tq N) t
theorem nvw (k_:Bool→α) (t:ni) (h_t:kc ni.ct t.enc):∃N,neZ ke k_ N t=k_ (yK t):=by
 obtain⟨hl,_⟩:=oh (ni.Wo h_t)
 refine⟨t.nF.length+1, ?_⟩
 unfold neZ V2 yK
 refine pQ (fun _=>rfl) (fun hg=> ?_)
 have h8:t.nF.length=8:=by
  have:len t.nF=8:=by simpa using hg
  simp only[len] at this
  omega
 have key:xy ke k_ (t.nF.length+1) t.nF (t.nF.length+1) 0=bif qn (nuZ t.nF) t.nF 0 then k_ false else k_ true:=by
  refine (qS t.nF (xy ke k_ (t.nF.length+1) t.nF) (fun i r c=>bif nuZ t.nF i r then k_ false else c) (k_ true) ?_ ?_).trans (wi (nuZ t.nF) (k_ false) (k_ true) t.nF 0)
  ·intro n i h
   rw[XM]
   have ho:nAT (⟨t.nF⟩:ni) (nP.nd (nth t.nF i) 1)=true:=decide_eq_true h8
   simp only[N6,ho,oL h,nT h,oa h hl,Int.toNat_natCast,ng,nm,cond_true]
   unfold nuZ
   show (bif nfp (nth t.nF i) then k_ false else _)=_
   cases nfp (nth t.nF i)
   ·simp only[cond_false]
    cases ((rI (nth t.nF i) 0) != 1)
    ·rfl
    ·rfl
   ·rfl
  ·intro n
   rw[XM]
   simp only[N6,nN,cond_false]
 refine key.trans ?_
 rw[nBi h8]
 exact J5 rfl rfl
def yV (k_:Bool→α) (nt:Int) (x:Rows) (nX:Int) (oD:Int→α) (oc:Int):α:=
 bif decide (oc<nX) then
  bif Eb true (idx oc x) then
   bif !(nf (rI (nth x (Int.toNat oc)) 0) 0 (nM (nt - 1))) then k_ false
   else oD (nM (oc+1))
  else ke
 else k_ true
def wq (k_:Bool→α) (N:Nat) (nt:Int) (x:Rows) (nX:Int) (m_:Nat):Int→α:=
 Nat.rec (motive:=fun _=>Int→α) (fun _=>ke) (fun _ oD=>yV ke k_ nt x nX oD) m_
theorem Uw (k_:Bool→α) (N:Nat) (nt:Int) (x:Rows) (nX:Int) (m_:Nat):wq ke k_ N nt x nX (m_+1)=yV ke k_ nt x nX (wq ke k_ N nt x nX m_):=rfl
def NB {α:Type} (ke:α) (k_:Bool→α) (l0:Rows→Int→Int→α) (s:nG) (nt:Int):α:=
 bif bif !(nf nt 1 4) then true else bif (len s.Key) != 16 then true else !(T5 (len s.Table)) then k_ false
 else l0 s.Table (len s.Table) 0
def nbr (k_:Bool→α) (N:Nat) (s:nG) (nt:Int):α:=NB ke k_ (fun x nX=>wq ke k_ N nt x nX N) s nt
def yp (s:nG) (nt:Int):Bool:=bif bif !(nf nt 1 4) then true else bif (len s.Key) != 16 then true else !(T5 (len s.Table)) then false
 else s.Table.all (fun r=>nf (rI r 0) 0 (nM (nt - 1)))
theorem npJ (k_:Bool→α) (s:nG) (nt:Int) (RQ:kc nG.ct s.enc):∃N,nbr ke k_ N s nt=k_ (yp s nt):=by
 obtain⟨hl,_⟩:=oh (nG.Wp RQ)
 refine⟨s.Table.length+1, ?_⟩
 unfold nbr NB yp
 refine pQ (fun _=>rfl) (fun _=> ?_)
 have key:wq ke k_ (s.Table.length+1) nt s.Table (len s.Table) (s.Table.length+1) 0=bif s.Table.all (fun r=>nf (rI r 0) 0 (nM (nt - 1))) then k_ true else k_ false:=by
  refine (qS s.Table (wq ke k_ (s.Table.length+1) nt s.Table (len s.Table)) (fun i r c=>bif !(nf (rI r 0) 0 (nM (nt - 1))) then k_ false else c) (k_ true) ?_ ?_).trans (Rw (fun r=>nf (rI r 0) 0 (nM (nt - 1))) (k_ false) (k_ true) s.Table 0)
  ·intro n i h
   rw[Uw]
   simp only[yV,oL h,nT h,oa h hl,Int.toNat_natCast,ng,nm,cond_true]
  ·intro n
   rw[Uw]
   simp only[yV,nN,cond_false]
 refine key.trans ?_
 cases s.Table.all (fun r=>nf (rI r 0) 0 (nM (nt - 1)))<;>rfl
def zq (k_:Bool→α) (nt:Int) (rK:Rows) (oD:Int→α) (k:Int):α:=
 bif decide (k<len rK) then
  bif Eb true (idx k rK) then
   bif !(nf (rI (nth rK (Int.toNat k)) 0) 0 (nM (nt - 1))) then k_ false
   else oD (nM (k+1))
  else ke
 else k_ true
def wB (k_:Bool→α) (N:Nat) (nt:Int) (rK:Rows) (m_:Nat):Int→α:=
 Nat.rec (motive:=fun _=>Int→α) (fun _=>ke) (fun _ oD=>zq ke k_ nt rK oD) m_
theorem VY (k_:Bool→α) (N:Nat) (nt:Int) (rK:Rows) (m_:Nat):wB ke k_ N nt rK (m_+1)=zq ke k_ nt rK (wB ke k_ N nt rK m_):=rfl
def S7 {α:Type} (ke:α) (k_:Bool→α) (l0:Rows→Int→α) (s:nG) (nt:Int):α:=
 bif bif !(nf nt 1 4) then true else bif (len s.Key) != 16 then true else !(T5 (len s.Table)) then k_ false
 else l0 s.Table 0
def ncR (k_:Bool→α) (N:Nat) (s:nG) (nt:Int):α:=S7 ke k_ (fun rK=>wB ke k_ N nt rK N) s nt
theorem nsq (k_:Bool→α) (s:nG) (nt:Int) (RQ:kc nG.ct s.enc):∃N,ncR ke k_ N s nt=k_ (yp s nt):=by
 obtain⟨hl,_⟩:=oh (nG.Wp RQ)
 refine⟨s.Table.length+1, ?_⟩
 unfold ncR S7 yp
 refine pQ (fun _=>rfl) (fun _=> ?_)
 have key:wB ke k_ (s.Table.length+1) nt s.Table (s.Table.length+1) 0=bif s.Table.all (fun r=>nf (rI r 0) 0 (nM (nt - 1))) then k_ true else k_ false:=by
  refine (qS s.Table (wB ke k_ (s.Table.length+1) nt s.Table) (fun i r c=>bif !(nf (rI r 0) 0 (nM (nt - 1))) then k_ false else c) (k_ true) ?_ ?_).trans (Rw (fun r=>nf (rI r 0) 0 (nM (nt - 1))) (k_ false) (k_ true) s.Table 0)
  ·intro n i h
   rw[VY]
   simp only[zq,oL h,nT h,oa h hl,Int.toNat_natCast,ng,nm,cond_true]
  ·intro n
   rw[VY]
   simp only[zq,nN,cond_false]
 refine key.trans ?_
 cases s.Table.all (fun r=>nf (rI r 0) 0 (nM (nt - 1)))<;>rfl
def ux (k_:Bool→α) (l1:Int→Int→α) (nt:Int) (x:Rows) (nX:Int) (rK:Rows) (oD:Int→α) (oc:Int):α:=
 bif decide (oc<nX) then
  bif Eb true (idx oc x) then
   bif bif (rI (nth x (Int.toNat oc)) 7)==0 then decide (nt≤rI (nth x (Int.toNat oc)) 8) else false then k_ false
   else oD (nM (oc+1))
  else ke
 else l1 (len rK) 0
def uy (k_:Bool→α) (nt:Int) (rK:Rows) (xf:Int) (ih1:Int→α) (OD:Int):α:=
 bif decide (OD<xf) then
  bif Eb true (idx OD rK) then
   bif bif (rI (nth rK (Int.toNat OD)) 0)==1 then decide (nt≤rI (nth rK (Int.toNat OD)) 6) else false then k_ false
   else ih1 (nM (OD+1))
  else ke
 else k_ true
def rN (k_:Bool→α) (N:Nat) (nt:Int) (rK:Rows) (xf:Int) (m_:Nat):Int→α:=
 Nat.rec (motive:=fun _=>Int→α) (fun _=>ke) (fun _ ih1=>uy ke k_ nt rK xf ih1) m_
theorem RZ (k_:Bool→α) (N:Nat) (nt:Int) (rK:Rows) (xf:Int) (m_:Nat):rN ke k_ N nt rK xf (m_+1)=uy ke k_ nt rK xf (rN ke k_ N nt rK xf m_):=rfl
def rM (k_:Bool→α) (N:Nat) (nt:Int) (x:Rows) (nX:Int) (rK:Rows) (m_:Nat):Int→α:=
 Nat.rec (motive:=fun _=>Int→α) (fun _=>ke) (fun _ oD=>ux ke k_ (fun xf=>rN ke k_ N nt rK xf N) nt x nX rK oD) m_
theorem RY (k_:Bool→α) (N:Nat) (nt:Int) (x:Rows) (nX:Int) (rK:Rows) (m_:Nat) (oc:Int):rM ke k_ N nt x nX rK (m_+1) oc=ux ke k_ (fun xf=>rN ke k_ N nt rK xf N) nt x nX rK (rM ke k_ N nt x nX rK m_) oc:=rfl
def xM {α:Type} (ke:α) (k_:Bool→α) (l0:Rows→Int→Rows→Int→α) (s:nk) (nt:Int):α:=
 bif bif !(TU s.oO) then true else bif !(yK s.Table) then true else !(yp s.oF nt) then k_ false
 else l0 s.oO (len s.oO) s.Table.nF 0
def xL (k_:Bool→α) (N:Nat) (s:nk) (nt:Int):α:=xM ke k_ (fun x nX rK=>rM ke k_ N nt x nX rK N) s nt
def rz (s:nk) (nt:Int):Bool:=bif bif !(TU s.oO) then true else bif !(yK s.Table) then true else !(yp s.oF nt) then false
 else bif s.oO.all (fun r=> !(decide (nt≤rI r 8))) then s.Table.nF.all (fun r=> !(decide (nt≤rI r 6))) else false
theorem nhw {p q:List DC→Bool} :∀ {l:Rows},(∀r∈l,p r=q r)→l.all p=l.all q
 | [],_=>rfl
 | r::rs,h=>by
  simp only[List.all_cons]
  rw[h r (by simp),nhw (fun x hx=>h x (by simp [hx]))]
theorem nzv {r:List DC} (h:OU (pf.nd r 0)=true) (h7:rI r 7≠0):rI r 8=0:=by
 unfold OU X1 at h
 simp only[id] at h
 have e7:((pf.nd r 0).Action==0)=false:=by
  show (rI r 7==0)=false
  simpa using h7
 rw[e7] at h
 simp only[cond_false] at h
 by_cases h1:rI r 8=0
 ·exact h1
 ·have e8:((pf.nd r 0).Queue==0)=false:=by
   show (rI r 8==0)=false
   simpa using h1
  rw[e8] at h
  revert h
  cases (pf.nd r 0).Action==1<;>simp
theorem nyD {t:ni} (h:yK t=true) {r:List DC} (hr:r∈t.nF) (h0:rI r 0≠1):rI r 6=0:=by
 unfold yK at h
 cases h1:(len t.nF) != 8
 ·rw[h1,cond_false] at h
  cases h2:qn (ni3 t.nF) t.nF 0
  ·obtain⟨i,hi,rfl⟩:=List.getElem_of_mem hr
   have:=nam h2 i hi
   rw[Nat.zero_add] at this
   have hn:nth t.nF i=t.nF[i]:=by simp [nth,List.getD_eq_getElem?_getD,hi]
   rw[hn] at this
   unfold ni3 at this
   have e1:((rI t.nF[i] 0) != 1)=true:=by simpa using h0
   rw[e1] at this
   by_cases h6:rI t.nF[i] 6=0
   ·exact h6
   ·have e6:((rI t.nF[i] 6) != 0)=true:=by simpa using h6
    rw[e6] at this
    revert this
    cases nfp t.nF[i]<;>cases nyz t.nF[i]<;>simp
  ·rw[h2] at h;cases h
 ·rw[h1] at h;cases h
theorem nmd {s:nk} {nt:Int} (hg:(bif !(TU s.oO) then true else bif !(yK s.Table) then true else !(yp s.oF nt))=false):
  (∀r∈s.oO,OU (pf.nd r 0)=true)∧yK s.Table=true∧1≤nt:=by
 cases h1:TU s.oO
 ·rw[h1] at hg;cases hg
 cases h2:yK s.Table
 ·rw[h1,h2] at hg;cases hg
 cases h3:yp s.oF nt
 ·rw[h1,h2,h3] at hg;cases hg
 refine⟨?_,rfl, ?_⟩
 ·unfold TU at h1
  cases h4:s.oO.all (fun r=>OU (pf.nd r 0))
  ·rw[h4] at h1;cases h1
  ·exact fun r hr=>by simpa using List.all_eq_true.1 h4 r hr
 ·unfold yp at h3
  cases h4:nf nt 1 4
  ·rw[h4] at h3;cases h3
  ·exact (nS.1 h4).1
theorem nj3 (k_:Bool→α) (s:nk) (nt:Int) (RQ:kc nk.ct s.enc):∃N,xL ke k_ N s nt=k_ (rz s nt):=by
 obtain⟨hl,_⟩:=oh (nk.nv9 RQ)
 obtain⟨j_,_⟩:=oh (ni.Wo (nk.Wp RQ))
 refine⟨s.oO.length+s.Table.nF.length+1, ?_⟩
 unfold xL xM rz
 refine pQ (fun _=>rfl) (fun hg=> ?_)
 have ny2:rN ke k_ (s.oO.length+s.Table.nF.length+1) nt s.Table.nF (len s.Table.nF) (s.oO.length+s.Table.nF.length+1) 0=bif s.Table.nF.all (fun r=> !(bif (rI r 0)==1 then decide (nt≤rI r 6) else false)) then k_ true else k_ false:=by
  refine (vL s.Table.nF (rN ke k_ (s.oO.length+s.Table.nF.length+1) nt s.Table.nF (len s.Table.nF)) (fun i r c=>bif !(!(bif (rI r 0)==1 then decide (nt≤rI r 6) else false)) then k_ false else c) (k_ true) ?_ ?_ (s.oO.length+s.Table.nF.length+1) (by omega)).trans (Rw (fun r=> !(bif (rI r 0)==1 then decide (nt≤rI r 6) else false)) (k_ false) (k_ true) s.Table.nF 0)
  ·intro n i h
   rw[RZ]
   simp only[uy,oL h,nT h,oa h j_,Int.toNat_natCast,ng,nm,cond_true,Bool.not_not]
  ·intro n
   rw[RZ]
   simp only[uy,nN,cond_false]
 have key:rM ke k_ (s.oO.length+s.Table.nF.length+1) nt s.oO (len s.oO) s.Table.nF (s.oO.length+s.Table.nF.length+1) 0=bif s.oO.all (fun r=> !(bif (rI r 7)==0 then decide (nt≤rI r 8) else false)) then (bif s.Table.nF.all (fun r=> !(bif (rI r 0)==1 then decide (nt≤rI r 6) else false)) then k_ true else k_ false) else k_ false:=by
  refine (vL s.oO (rM ke k_ (s.oO.length+s.Table.nF.length+1) nt s.oO (len s.oO) s.Table.nF) (fun i r c=>bif !(!(bif (rI r 7)==0 then decide (nt≤rI r 8) else false)) then k_ false else c) (bif s.Table.nF.all (fun r=> !(bif (rI r 0)==1 then decide (nt≤rI r 6) else false)) then k_ true else k_ false) ?_ ?_ (s.oO.length+s.Table.nF.length+1) (by omega)).trans (Rw (fun r=> !(bif (rI r 7)==0 then decide (nt≤rI r 8) else false)) (k_ false) _ s.oO 0)
  ·intro n i h
   rw[RY]
   simp only[ux,oL h,nT h,oa h hl,Int.toNat_natCast,ng,nm,cond_true,Bool.not_not]
  ·intro n
   rw[RY]
   simp only[ux,nN,cond_false]
   exact ny2
 refine key.trans ?_
 obtain⟨g1,g2,g3⟩:=nmd hg
 rw[nhw (l:=s.oO) (q:=fun r=> !(decide (nt≤rI r 8))) (fun r hr=>by
  by_cases h7:rI r 7=0
  ·have e:((rI r 7)==0)=true:=by simpa using h7
   rw[e,cond_true]
  ·have e:((rI r 7)==0)=false:=by simpa using h7
   rw[e,cond_false,nzv (g1 r hr) h7,decide_eq_false (by omega)])]
 rw[nhw (l:=s.Table.nF) (q:=fun r=> !(decide (nt≤rI r 6))) (fun r hr=>by
  by_cases h7:rI r 0=1
  ·have e:((rI r 0)==1)=true:=by simpa using h7
   rw[e,cond_true]
  ·have e:((rI r 0)==1)=false:=by simpa using h7
   rw[e,cond_false,nyD g2 hr h7,decide_eq_false (by omega)])]
 cases s.oO.all (fun r=> !(decide (nt≤rI r 8)))
 ·rfl
 ·cases s.Table.nF.all (fun r=> !(decide (nt≤rI r 6)))<;>rfl
def uN (k_:Bool→α) (l1:Int→α) (nt:Int) (tw rK:Rows) (oD:Int→α) (k:Int):α:=
 bif decide (k<len tw) then
  bif Eb true (idx k tw) then
   bif decide (nt≤rI (nth tw (Int.toNat k)) 8) then k_ false
   else oD (nM (k+1))
  else ke
 else l1 0
def uO (k_:Bool→α) (nt:Int) (rK:Rows) (ih1:Int→α) (qE:Int):α:=
 bif decide (qE<len rK) then
  bif Eb true (idx qE rK) then
   bif decide (nt≤rI (nth rK (Int.toNat qE)) 6) then k_ false
   else ih1 (nM (qE+1))
  else ke
 else k_ true
def rT (k_:Bool→α) (N:Nat) (nt:Int) (rK:Rows) (m_:Nat):Int→α:=
 Nat.rec (motive:=fun _=>Int→α) (fun _=>ke) (fun _ ih1=>uO ke k_ nt rK ih1) m_
theorem Sd (k_:Bool→α) (N:Nat) (nt:Int) (rK:Rows) (m_:Nat):rT ke k_ N nt rK (m_+1)=uO ke k_ nt rK (rT ke k_ N nt rK m_):=rfl
def rQ (k_:Bool→α) (N:Nat) (nt:Int) (tw rK:Rows) (m_:Nat):Int→α:=
 Nat.rec (motive:=fun _=>Int→α) (fun _=>ke) (fun _ oD=>uN ke k_ (rT ke k_ N nt rK N) nt tw rK oD) m_
theorem Sc (k_:Bool→α) (N:Nat) (nt:Int) (tw rK:Rows) (m_:Nat) (k:Int):rQ ke k_ N nt tw rK (m_+1) k=uN ke k_ (rT ke k_ N nt rK N) nt tw rK (rQ ke k_ N nt tw rK m_) k:=rfl
def yk {α:Type} (ke:α) (k_:Bool→α) (l0:Rows→Rows→Int→α) (s:nk) (nt:Int):α:=
 bif bif !(TU s.oO) then true else bif !(yK s.Table) then true else !(yp s.oF nt) then k_ false
 else l0 s.oO s.Table.nF 0
def yj (k_:Bool→α) (N:Nat) (s:nk) (nt:Int):α:=yk ke k_ (fun tw rK=>rQ ke k_ N nt tw rK N) s nt
theorem nl0 (k_:Bool→α) (s:nk) (nt:Int) (RQ:kc nk.ct s.enc):∃N,yj ke k_ N s nt=k_ (rz s nt):=by
 obtain⟨hl,_⟩:=oh (nk.nv9 RQ)
 obtain⟨j_,_⟩:=oh (ni.Wo (nk.Wp RQ))
 refine⟨s.oO.length+s.Table.nF.length+1, ?_⟩
 unfold yj yk rz
 refine pQ (fun _=>rfl) (fun hg=> ?_)
 have ny2:rT ke k_ (s.oO.length+s.Table.nF.length+1) nt s.Table.nF (s.oO.length+s.Table.nF.length+1) 0=bif s.Table.nF.all (fun r=> !(decide (nt≤rI r 6))) then k_ true else k_ false:=by
  refine (vL s.Table.nF (rT ke k_ (s.oO.length+s.Table.nF.length+1) nt s.Table.nF) (fun i r c=>bif !(!(decide (nt≤rI r 6))) then k_ false else c) (k_ true) ?_ ?_ (s.oO.length+s.Table.nF.length+1) (by omega)).trans (Rw (fun r=> !(decide (nt≤rI r 6))) (k_ false) (k_ true) s.Table.nF 0)
  ·intro n i h
   rw[Sd]
   simp only[uO,oL h,nT h,oa h j_,Int.toNat_natCast,ng,nm,cond_true,Bool.not_not]
  ·intro n
   rw[Sd]
   simp only[uO,nN,cond_false]
 have key:rQ ke k_ (s.oO.length+s.Table.nF.length+1) nt s.oO s.Table.nF (s.oO.length+s.Table.nF.length+1) 0=bif s.oO.all (fun r=> !(decide (nt≤rI r 8))) then (bif s.Table.nF.all (fun r=> !(decide (nt≤rI r 6))) then k_ true else k_ false) else k_ false:=by
  refine (vL s.oO (rQ ke k_ (s.oO.length+s.Table.nF.length+1) nt s.oO s.Table.nF) (fun i r c=>bif !(!(decide (nt≤rI r 8))) then k_ false else c) (bif s.Table.nF.all (fun r=> !(decide (nt≤rI r 6))) then k_ true else k_ false) ?_ ?_ (s.oO.length+s.Table.nF.length+1) (by omega)).trans (Rw (fun r=> !(decide (nt≤rI r 8))) (k_ false) _ s.oO 0)
  ·intro n i h
   rw[Sc]
   simp only[uN,oL h,nT h,oa h hl,Int.toNat_natCast,ng,nm,cond_true,Bool.not_not]
  ·intro n
   rw[Sc]
   simp only[uN,nN,cond_false]
   exact ny2
 refine key.trans ?_
 cases s.oO.all (fun r=> !(decide (nt≤rI r 8)))
 ·rfl
 ·cases s.Table.nF.all (fun r=> !(decide (nt≤rI r 6)))<;>rfl
def yv (k_:Bool→α) (l1:Int→Rows→Int→α) (n x:Int) (qI pT pb pn po:Rows) (pr:Bytes) (pq:Rows) (qM qN qO qP qQ:Int) (oD:Int→α) (nX:Int):α:=
 let z0:Bool:= !(nhu (nK.nd (nth qI (Int.toNat nX)) 0))
 let z1:Bool:= !(qB (nv.nd (nth pT (Int.toNat nX)) 0))
 let z2:Bool:=Eb (Eb true (idx nX qI)) (idx nX pT)
 bif decide (nX<x) then
  bif LV z0 (Eb true (idx nX qI)) (LV z1 z2 (Eb z2 (idx nX pb))) then
   bif bif z0 then true else bif z1 then true else !(ur (nY.nd (nth pb (Int.toNat nX)) 0)) then k_ false
   else oD (nM (nX+1))
  else ke
 else l1 5 ([[.int qM],[.int qN],[.int qO],[.int qP],[.int qQ]]) 0
def Pg (k_:Bool→α) (n oc:Int) (pn po:Rows) (pr:Bytes) (pq xf:Rows) (ih1:Int→α) (OO:Int):α:=
 bif decide (OO<oc) then
  bif Eb (Eb true (idx OO xf)) (inl (Int.toNat OO) xf) then
   bif !(nf (rI (nth xf (Int.toNat OO)) 0) 0 1000000000000) then k_ false
   else ih1 (nM (OO+1))
  else ke
 else k_ (rz (⟨pn,(⟨po⟩:ni),(⟨pr,pq⟩:nG)⟩:nk) n)
def uu (k_:Bool→α) (N:Nat) (n oc:Int) (pn po:Rows) (pr:Bytes) (pq xf:Rows) (m_:Nat):Int→α:=
 Nat.rec (motive:=fun _=>Int→α) (fun _=>ke) (fun _ ih1=>Pg ke k_ n oc pn po pr pq xf ih1) m_
theorem Yz (k_:Bool→α) (N:Nat) (n oc:Int) (pn po:Rows) (pr:Bytes) (pq xf:Rows) (m_:Nat):uu ke k_ N n oc pn po pr pq xf (m_+1)=Pg ke k_ n oc pn po pr pq xf (uu ke k_ N n oc pn po pr pq xf m_):=rfl
def sD (k_:Bool→α) (N:Nat) (n x:Int) (qI pT pb pn po:Rows) (pr:Bytes) (pq:Rows) (qM qN qO qP qQ:Int) (m_:Nat):Int→α:=
 Nat.rec (motive:=fun _=>Int→α) (fun _=>ke) (fun _ oD=>yv ke k_ (fun oc xf=>uu ke k_ N n oc pn po pr pq xf N) n x qI pT pb pn po pr pq qM qN qO qP qQ oD) m_
theorem Yy (k_:Bool→α) (N:Nat) (n x:Int) (qI pT pb pn po:Rows) (pr:Bytes) (pq:Rows) (qM qN qO qP qQ:Int) (m_:Nat) (nX:Int):sD ke k_ N n x qI pT pb pn po pr pq qM qN qO qP qQ (m_+1) nX=yv ke k_ (fun oc xf=>uu ke k_ N n oc pn po pr pq xf N) n x qI pT pb pn po pr pq qM qN qO qP qQ (sD ke k_ N n x qI pT pb pn po pr pq qM qN qO qP qQ m_) nX:=rfl
def RA (k_:Bool→α) (l0:Int→Int→Rows→Rows→Rows→Rows→Rows→Bytes→Rows→Int→Int→Int→Int→Int→Int→α) (h:ny):α:=
 let z0:Bool:= !(nf (len h.Rx) 1 2)
 let z1:Bool:=(len h.ot) != (len h.Rx)
 let z2:Bool:=(len h.og) != (len h.Rx)
 bif LV (!(pF h.ov)) true (LV (!(oQ h.Maps)) true (LV (!(Sg h.Tx)) (Eb true (zx h.Tx)) (LV (!(vg h.Filter)) (Eb true (zx h.Tx)) (LV z0 (Eb true (zx h.Tx)) (LV z1 (Eb true (zx h.Tx)) (LV z2 (Eb true (zx h.Tx)) (Eb true (zx h.Tx)))))))) then
  bif bif !(pF h.ov) then true else bif !(oQ h.Maps) then true else bif !(Sg h.Tx) then true else bif !(vg h.Filter) then true else bif z0 then true else bif z1 then true else bif z2 then true else (len h.pd) != (len h.Rx) then k_ false
  else l0 (len h.Rx) (len h.Rx) h.Rx h.ot h.og h.nz.oO h.nz.Table.nF h.nz.oF.Key h.nz.oF.Table h.Counters.Frames h.Counters.Bad h.Counters.sk h.Counters.t5 h.Counters.OV 0
 else ke
def Rz (k_:Bool→α) (N:Nat) (h:ny):α:=RA ke k_ (fun n x qI pT pb pn po pr pq qM qN qO qP qQ=>sD ke k_ N n x qI pT pb pn po pr pq qM qN qO qP qQ N) h
def nas (h:ny):Bool:=zx h.Tx
def wk (h:ny):Rows:=[[.int h.Counters.Frames],[.int h.Counters.Bad],[.int h.Counters.sk],[.int h.Counters.t5],[.int h.Counters.OV]]
def nzE (h:ny):Bool:=(bif !(pF h.ov) then true else bif !(oQ h.Maps) then true else bif !(Sg h.Tx) then true else bif !(vg h.Filter) then true else bif !(nf (len h.Rx) 1 2) then true else bif (len h.ot) != (len h.Rx) then true else bif (len h.og) != (len h.Rx) then true else (len h.pd) != (len h.Rx))
def nah (h:ny):Bool:=bif nzE h then false else bif rz h.nz (len h.Rx) then bif wh (fun i=>bif !(nhu (nK.nd (nth h.Rx i) 0)) then true else bif !(qB (nv.nd (nth h.ot i) 0)) then true else !(ur (nY.nd (nth h.og i) 0))) h.Rx.length 0 then false else (wk h).all (fun r=>nf (rI r 0) 0 1000000000000) else false
theorem nine:∀a b c d e f g i j:Bool,(bif a then true else bif b then true else bif c then true else bif d then true else bif e then true else bif f then true else bif g then true else bif i then true else j)=(bif (bif a then true else bif b then true else bif c then true else bif d then true else bif e then true else bif f then true else bif g then true else i) then true else j):=by decide
theorem nwh (k_:Bool→α) (h:ny) (aJ:nas h=true):∃N,Rz ke k_ N h=k_ (nah h):=by
 have hq:zx h.Tx=true:=aJ
 refine⟨h.Rx.length+6, ?_⟩
 unfold Rz RA nah
 simp only[hq,ng,nm,zG,cond_true]
 refine pQ (fun _=>rfl) (fun hg=> ?_)
 have hn:h.Rx.length≤2∧len h.ot=len h.Rx∧len h.og=len h.Rx:=by
  unfold nzE at hg
  cases h5:nf (len h.Rx) 1 2
  ·rw[h5] at hg
   revert hg
   cases pF h.ov<;>cases oQ h.Maps<;>cases Sg h.Tx<;>cases vg h.Filter<;>simp
  ·have b:=(nS.1 h5).2
   by_cases e1:len h.ot=len h.Rx
   ·by_cases e2:len h.og=len h.Rx
    ·exact⟨by simp only[len] at b;omega,e1,e2⟩
    ·have e2:((len h.og) != (len h.Rx))=true:=by simpa using e2
     rw[e2] at hg
     revert hg
     cases pF h.ov<;>cases oQ h.Maps<;>cases Sg h.Tx<;>cases vg h.Filter<;>cases nf (len h.Rx) 1 2<;>cases ((len h.ot) != (len h.Rx))<;>simp
   ·have e1:((len h.ot) != (len h.Rx))=true:=by simpa using e1
    rw[e1] at hg
    revert hg
    cases pF h.ov<;>cases oQ h.Maps<;>cases Sg h.Tx<;>cases vg h.Filter<;>cases nf (len h.Rx) 1 2<;>simp
 obtain⟨hn,hp,hv⟩:=hn
 have hc5:(wk h).length=5:=rfl
 have ny2:uu ke k_ (h.Rx.length+6) (len h.Rx) 5 h.nz.oO h.nz.Table.nF h.nz.oF.Key h.nz.oF.Table (wk h) (h.Rx.length+6) 0=bif (wk h).all (fun r=>nf (rI r 0) 0 1000000000000) then (k_ (rz h.nz (len h.Rx))) else k_ false:=by
  refine (vL (wk h) (uu ke k_ (h.Rx.length+6) (len h.Rx) 5 h.nz.oO h.nz.Table.nF h.nz.oF.Key h.nz.oF.Table (wk h)) (fun i r c=>bif !(nf (rI r 0) 0 1000000000000) then k_ false else c) ((k_ (rz h.nz (len h.Rx)))) ?_ ?_ (h.Rx.length+6) (by omega)).trans (Rw (fun r=>nf (rI r 0) 0 1000000000000) (k_ false) ((k_ (rz h.nz (len h.Rx)))) (wk h) 0)
  ·intro n i hi
   rw[Yz]
   have w1:nM ((i:Int)+1)=(i:Int)+1:=nQ (by omega) (by omega)
   have hd:decide ((i:Int)<5)=true:=decide_eq_true (by omega)
   simp only[Pg,hd,nT hi,sZ hi,w1,Int.toNat_natCast,ng,nm,cond_true]
  ·intro n
   rw[Yz]
   rfl
 have key:sD ke k_ (h.Rx.length+6) (len h.Rx) (len h.Rx) h.Rx h.ot h.og h.nz.oO h.nz.Table.nF h.nz.oF.Key h.nz.oF.Table h.Counters.Frames h.Counters.Bad h.Counters.sk h.Counters.t5 h.Counters.OV (h.Rx.length+6) 0=bif wh (fun i=>bif !(nhu (nK.nd (nth h.Rx i) 0)) then true else bif !(qB (nv.nd (nth h.ot i) 0)) then true else !(ur (nY.nd (nth h.og i) 0))) h.Rx.length 0 then k_ false else (bif (wk h).all (fun r=>nf (rI r 0) 0 1000000000000) then (k_ (rz h.nz (len h.Rx))) else k_ false):=by
  refine (nlC (σ:=Unit) h.Rx.length (fun n i _=>sD ke k_ (h.Rx.length+6) (len h.Rx) (len h.Rx) h.Rx h.ot h.og h.nz.oO h.nz.Table.nF h.nz.oF.Key h.nz.oF.Table h.Counters.Frames h.Counters.Bad h.Counters.sk h.Counters.t5 h.Counters.OV n i) (fun i c s=>bif bif !(nhu (nK.nd (nth h.Rx i) 0)) then true else bif !(qB (nv.nd (nth h.ot i) 0)) then true else !(ur (nY.nd (nth h.og i) 0)) then k_ false else c s) (fun _=>bif (wk h).all (fun r=>nf (rI r 0) 0 1000000000000) then (k_ (rz h.nz (len h.Rx))) else k_ false) ?_ ?_ (h.Rx.length+6) () (by omega)).trans (nsQ (fun i=>bif !(nhu (nK.nd (nth h.Rx i) 0)) then true else bif !(qB (nv.nd (nth h.ot i) 0)) then true else !(ur (nY.nd (nth h.og i) 0))) (k_ false) _ h.Rx.length 0)
  ·intro n i s hi
   show sD ke k_ (h.Rx.length+6) (len h.Rx) (len h.Rx) h.Rx h.ot h.og h.nz.oO h.nz.Table.nF h.nz.oF.Key h.nz.oF.Table h.Counters.Frames h.Counters.Bad h.Counters.sk h.Counters.t5 h.Counters.OV (n+1) (i:Int)=_
   rw[Yy]
   have w1:nM ((i:Int)+1)=(i:Int)+1:=nQ (by omega) (by omega)
   have p1:idx (i:Int) h.Rx=true:=nT hi
   have p2:idx (i:Int) h.ot=true:=nT (by simp only[len] at hp;omega)
   have p3:idx (i:Int) h.og=true:=nT (by simp only[len] at hv;omega)
   have p0:decide ((i:Int)<len h.Rx)=true:=oL hi
   simp only[yv,p0,p1,p2,p3,w1,Int.toNat_natCast,ng,nm,zG,cond_true]
  ·intro n s
   show sD ke k_ (h.Rx.length+6) (len h.Rx) (len h.Rx) h.Rx h.ot h.og h.nz.oO h.nz.Table.nF h.nz.oF.Key h.nz.oF.Table h.Counters.Frames h.Counters.Bad h.Counters.sk h.Counters.t5 h.Counters.OV (n+1) (h.Rx.length:Int)=_
   rw[Yy]
   have p0:decide ((h.Rx.length:Int)<len h.Rx)=false:=nN h.Rx
   simp only[yv,p0,cond_false]
   exact ny2
 refine key.trans ?_
 cases rz h.nz (len h.Rx)
 ·cases wh (fun i=>bif !(nhu (nK.nd (nth h.Rx i) 0)) then true else bif !(qB (nv.nd (nth h.ot i) 0)) then true else !(ur (nY.nd (nth h.og i) 0))) h.Rx.length 0
  ·cases (wk h).all (fun r=>nf (rI r 0) 0 1000000000000)<;>rfl
  ·rfl
 ·cases wh (fun i=>bif !(nhu (nK.nd (nth h.Rx i) 0)) then true else bif !(qB (nv.nd (nth h.ot i) 0)) then true else !(ur (nY.nd (nth h.og i) 0))) h.Rx.length 0
  ·cases (wk h).all (fun r=>nf (rI r 0) 0 1000000000000)<;>rfl
  ·rfl
def yG (k_:Bool→α) (l1:Rows→Int→α) (n:Int) (qI pT pb:Rows) (qM qN qO qP qQ:Int) (oD:Int→α) (k:Int):α:=
 let z0:Bool:= !(nhu (nK.nd (nth qI (Int.toNat k)) 0))
 let z1:Bool:= !(qB (nv.nd (nth pT (Int.toNat k)) 0))
 let z2:Bool:=Eb (Eb true (idx k qI)) (idx k pT)
 bif decide (k<n) then
  bif LV z0 (Eb true (idx k qI)) (LV z1 z2 (Eb z2 (idx k pb))) then
   bif bif z0 then true else bif z1 then true else !(ur (nY.nd (nth pb (Int.toNat k)) 0)) then k_ false
   else oD (nM (k+1))
  else ke
 else l1 ([[.int qM],[.int qN],[.int qO],[.int qP],[.int qQ]]) 0
def PV (k_:Bool→α) (list_:Rows) (ih1:Int→α) (qE:Int):α:=
 bif decide (qE<len list_) then
  bif Eb (Eb true (idx qE list_)) (inl (Int.toNat qE) list_) then
   bif !(nf (rI (nth list_ (Int.toNat qE)) 0) 0 1000000000000) then k_ false
   else ih1 (nM (qE+1))
  else ke
 else k_ true
def uE (k_:Bool→α) (N:Nat) (list_:Rows) (m_:Nat):Int→α:=
 Nat.rec (motive:=fun _=>Int→α) (fun _=>ke) (fun _ ih1=>PV ke k_ list_ ih1) m_
theorem Z2 (k_:Bool→α) (N:Nat) (list_:Rows) (m_:Nat):uE ke k_ N list_ (m_+1)=PV ke k_ list_ (uE ke k_ N list_ m_):=rfl
def sM (k_:Bool→α) (N:Nat) (n:Int) (qI pT pb:Rows) (qM qN qO qP qQ:Int) (m_:Nat):Int→α:=
 Nat.rec (motive:=fun _=>Int→α) (fun _=>ke) (fun _ oD=>yG ke k_ (fun list_=>uE ke k_ N list_ N) n qI pT pb qM qN qO qP qQ oD) m_
theorem Z1 (k_:Bool→α) (N:Nat) (n:Int) (qI pT pb:Rows) (qM qN qO qP qQ:Int) (m_:Nat) (k:Int):sM ke k_ N n qI pT pb qM qN qO qP qQ (m_+1) k=yG ke k_ (fun list_=>uE ke k_ N list_ N) n qI pT pb qM qN qO qP qQ (sM ke k_ N n qI pT pb qM qN qO qP qQ m_) k:=rfl
def RN (k_:Bool→α) (l0:Int→Rows→Rows→Rows→Int→Int→Int→Int→Int→Int→α) (h:ny):α:=
 let z0:Bool:= !(nf (len h.Rx) 1 2)
 let z1:Bool:=(len h.ot) != (len h.Rx)
 let z2:Bool:=(len h.og) != (len h.Rx)
 let z3:Bool:=(len h.pd) != (len h.Rx)
 bif LV (!(pF h.ov)) true (LV (!(oQ h.Maps)) true (LV (!(Sg h.Tx)) (Eb true (zx h.Tx)) (LV (!(vg h.Filter)) (Eb true (zx h.Tx)) (LV z0 (Eb true (zx h.Tx)) (LV z1 (Eb true (zx h.Tx)) (LV z2 (Eb true (zx h.Tx)) (LV z3 (Eb true (zx h.Tx)) (Eb true (zx h.Tx))))))))) then
  bif bif !(pF h.ov) then true else bif !(oQ h.Maps) then true else bif !(Sg h.Tx) then true else bif !(vg h.Filter) then true else bif z0 then true else bif z1 then true else bif z2 then true else bif z3 then true else !(rz h.nz (len h.Rx)) then k_ false
  else l0 (len h.Rx) h.Rx h.ot h.og h.Counters.Frames h.Counters.Bad h.Counters.sk h.Counters.t5 h.Counters.OV 0
 else ke
def RM (k_:Bool→α) (N:Nat) (h:ny):α:=RN ke k_ (fun n qI pT pb qM qN qO qP qQ=>sM ke k_ N n qI pT pb qM qN qO qP qQ N) h
theorem nxP (k_:Bool→α) (h:ny) (aJ:nas h=true):∃N,RM ke k_ N h=k_ (nah h):=by
 have hq:zx h.Tx=true:=aJ
 refine⟨h.Rx.length+6, ?_⟩
 unfold RM RN nah
 simp only[hq,ng,nm,zG,cond_true]
 rw[nine]
 show (bif (bif nzE h then true else !(rz h.nz (len h.Rx))) then k_ false else _)=_
 rcases Bool.eq_false_or_eq_true (nzE h) with hg | hg
 ·rw[hg];rfl
 rcases Bool.eq_false_or_eq_true (rz h.nz (len h.Rx)) with hs | hs
 case inr=>
  rw[hg,hs];rfl
 simp only[hg,hs,Bool.not_true,cond_false,cond_true]
 have hn:h.Rx.length≤2∧len h.ot=len h.Rx∧len h.og=len h.Rx:=by
  unfold nzE at hg
  cases h5:nf (len h.Rx) 1 2
  ·rw[h5] at hg
   revert hg
   cases pF h.ov<;>cases oQ h.Maps<;>cases Sg h.Tx<;>cases vg h.Filter<;>simp
  ·have b:=(nS.1 h5).2
   by_cases e1:len h.ot=len h.Rx
   ·by_cases e2:len h.og=len h.Rx
    ·exact⟨by simp only[len] at b;omega,e1,e2⟩
    ·have e2:((len h.og) != (len h.Rx))=true:=by simpa using e2
     rw[e2] at hg
     revert hg
     cases pF h.ov<;>cases oQ h.Maps<;>cases Sg h.Tx<;>cases vg h.Filter<;>cases nf (len h.Rx) 1 2<;>cases ((len h.ot) != (len h.Rx))<;>simp
   ·have e1:((len h.ot) != (len h.Rx))=true:=by simpa using e1
    rw[e1] at hg
    revert hg
    cases pF h.ov<;>cases oQ h.Maps<;>cases Sg h.Tx<;>cases vg h.Filter<;>cases nf (len h.Rx) 1 2<;>simp
 obtain⟨hn,hp,hv⟩:=hn
 have hc5:(wk h).length=5:=rfl
 have ny2:uE ke k_ (h.Rx.length+6) (wk h) (h.Rx.length+6) 0=bif (wk h).all (fun r=>nf (rI r 0) 0 1000000000000) then (k_ true) else k_ false:=by
  refine (vL (wk h) (uE ke k_ (h.Rx.length+6) (wk h)) (fun i r c=>bif !(nf (rI r 0) 0 1000000000000) then k_ false else c) ((k_ true)) ?_ ?_ (h.Rx.length+6) (by omega)).trans (Rw (fun r=>nf (rI r 0) 0 1000000000000) (k_ false) ((k_ true)) (wk h) 0)
  ·intro n i hi
   rw[Z2]
   have w1:nM ((i:Int)+1)=(i:Int)+1:=nQ (by omega) (by omega)
   simp only[PV,oL hi,nT hi,sZ hi,w1,Int.toNat_natCast,ng,nm,cond_true]
  ·intro n
   rw[Z2]
   rfl
 have key:sM ke k_ (h.Rx.length+6) (len h.Rx) h.Rx h.ot h.og h.Counters.Frames h.Counters.Bad h.Counters.sk h.Counters.t5 h.Counters.OV (h.Rx.length+6) 0=bif wh (fun i=>bif !(nhu (nK.nd (nth h.Rx i) 0)) then true else bif !(qB (nv.nd (nth h.ot i) 0)) then true else !(ur (nY.nd (nth h.og i) 0))) h.Rx.length 0 then k_ false else (bif (wk h).all (fun r=>nf (rI r 0) 0 1000000000000) then (k_ true) else k_ false):=by
  refine (nlC (σ:=Unit) h.Rx.length (fun n i _=>sM ke k_ (h.Rx.length+6) (len h.Rx) h.Rx h.ot h.og h.Counters.Frames h.Counters.Bad h.Counters.sk h.Counters.t5 h.Counters.OV n i) (fun i c s=>bif bif !(nhu (nK.nd (nth h.Rx i) 0)) then true else bif !(qB (nv.nd (nth h.ot i) 0)) then true else !(ur (nY.nd (nth h.og i) 0)) then k_ false else c s) (fun _=>bif (wk h).all (fun r=>nf (rI r 0) 0 1000000000000) then (k_ true) else k_ false) ?_ ?_ (h.Rx.length+6) () (by omega)).trans (nsQ (fun i=>bif !(nhu (nK.nd (nth h.Rx i) 0)) then true else bif !(qB (nv.nd (nth h.ot i) 0)) then true else !(ur (nY.nd (nth h.og i) 0))) (k_ false) _ h.Rx.length 0)
  ·intro n i s hi
   show sM ke k_ (h.Rx.length+6) (len h.Rx) h.Rx h.ot h.og h.Counters.Frames h.Counters.Bad h.Counters.sk h.Counters.t5 h.Counters.OV (n+1) (i:Int)=_
   rw[Z1]
   have w1:nM ((i:Int)+1)=(i:Int)+1:=nQ (by omega) (by omega)
   have p1:idx (i:Int) h.Rx=true:=nT hi
   have p2:idx (i:Int) h.ot=true:=nT (by simp only[len] at hp;omega)
   have p3:idx (i:Int) h.og=true:=nT (by simp only[len] at hv;omega)
   have p0:decide ((i:Int)<len h.Rx)=true:=oL hi
   simp only[yG,p0,p1,p2,p3,w1,Int.toNat_natCast,ng,nm,zG,cond_true]
  ·intro n s
   show sM ke k_ (h.Rx.length+6) (len h.Rx) h.Rx h.ot h.og h.Counters.Frames h.Counters.Bad h.Counters.sk h.Counters.t5 h.Counters.OV (n+1) (h.Rx.length:Int)=_
   rw[Z1]
   have p0:decide ((h.Rx.length:Int)<len h.Rx)=false:=nN h.Rx
   simp only[yG,p0,cond_false]
   exact ny2
 refine key.trans ?_
 cases wh (fun i=>bif !(nhu (nK.nd (nth h.Rx i) 0)) then true else bif !(qB (nv.nd (nth h.ot i) 0)) then true else !(ur (nY.nd (nth h.og i) 0))) h.Rx.length 0
 ·cases (wk h).all (fun r=>nf (rI r 0) 0 1000000000000)<;>rfl
 ·rfl
theorem nyt:∀(a:Rows) (l:Int),(∀r∈a,kc oZ.ct r)→0≤l→l≤1048576→0≤nzl (fun r l=>rl (oZ.nd r 0) l) a l→(ns9 a:Int)≤l
 | [],l,_,h,_,_=>by simpa [ns9] using h
 | r::rs,l,hw,h,h',h0=>by
  simp only[nzl] at h0
  have hr:G1 (.sl [.int .i64]) (.sl (rR r 2)):=by
   have:=hw r (by simp)
   rw[←oZ.eta this] at this
   exact oZ.nv6 this
  obtain⟨e,hl⟩:=nfs h h' (oh hr).1
  have hs:rl (oZ.nd r 0) l=bif decide (l - len (rR r 2)<0) then -1 else l - len (rR r 2):=by
   unfold rl RH nZ
   show (bif decide ((bif decide (nM (l - len (rR r 2))<0) then -1 else nM (l - len (rR r 2)))<0) then id (-1) else id (bif decide (nM (l - len (rR r 2))<0) then -1 else nM (l - len (rR r 2))))=_
   rw[e]
   by_cases hn:l - len (rR r 2)<0
   ·simp [hn]
   ·simp [hn]
  by_cases hn:l - len (rR r 2)<0
  ·simp [hs,hn] at h0
  ·have hs:rl (oZ.nd r 0) l=l - len (rR r 2):=by simp [hs,hn]
   have hn':¬rl (oZ.nd r 0) l<0:=by omega
   simp only[hn',decide_false,cond_false] at h0
   rw[hs] at h0
   have ih:=nyt rs (l - len (rR r 2)) (fun x hx=>hw x (by simp [hx])) (by omega) (by omega) h0
   simp only[ns9]
   simp only[len] at ih hn
   omega
theorem nzm {a:Rows} {left:Int} (uU:G1 (.sl [.int .i64,.int .i64,.sl [.int .i64]]) (.sl a)) (h1:0≤left) (h2:left≤1048576) (h0:0≤sH a left):ns9 a≤1048576:=by
 obtain⟨hl,hw⟩:=oh uU
 obtain⟨e,h3⟩:=nfs h1 h2 hl
 simp only[sH,TR,e] at h0
 by_cases hn:left - len a<0
 ·simp [hn] at h0
 ·simp only[hn,decide_false,cond_false] at h0
  have:=nyt a (left - len a) hw (by omega) (by omega) h0
  omega
theorem nCl {a:nh} {left:Int} (uU:kc nh.ct a.enc) (h1:0≤left) (h2:left≤1048576) (h0:0≤n8 a left):zx a=true:=by
 simp only[n8,wx,id] at h0
 by_cases c0:qy a.nI left<0
 ·simp only[c0,decide_true,cond_true] at h0;omega
 simp only[c0,decide_false,cond_false] at h0
 have k0:=PI (nh.nsY uU) h1 h2 (Int.not_lt.1 c0)
 by_cases c1:sH a.nr (qy a.nI left)<0
 ·simp only[c1,decide_true,cond_true] at h0;omega
 have k1:=SM (nh.vR uU) (Int.not_lt.1 c0) k0.1 (Int.not_lt.1 c1)
 have k2:=nzm (nh.vR uU) (Int.not_lt.1 c0) k0.1 (Int.not_lt.1 c1)
 have f1:a.nI.oB.length≤1048576:=by
  have hw:=(oh (nv.nsV (nh.nsY uU))).1
  obtain⟨e,hl⟩:=nfs h1 h2 hw
  simp only[qy,RG,id,nZ,e] at c0
  by_cases hn:left - len a.nI.oB<0
  ·simp [hn] at c0
  ·simp only[len] at hn;omega
 have f2:sm a.nr=true:=by
  have:=k1.2
  simp only[sW,Bool.and_eq_true] at this
  exact this.1
 simp only[zx,f2,Bool.true_and,Bool.and_eq_true,decide_eq_true_eq]
 omega
theorem nBd {a:ny} {left:Int} (uU:kc ny.ct a.enc) (h1:0≤left) (h2:left≤1048576) (h0:0≤rX a left):nas a=true:=by
 simp only[rX,zY,id] at h0
 by_cases c0:n_ a.ov left<0
 ·simp only[c0,decide_true,cond_true] at h0;omega
 simp only[c0,decide_false,cond_false] at h0
 have k0:=QY (ny.noH uU) h1 h2 (Int.not_lt.1 c0)
 by_cases c1:nZ a.Maps (n_ a.ov left)<0
 ·simp only[c1,decide_true,cond_true] at h0;omega
 simp only[c1,decide_false,cond_false] at h0
 have k1:=rZ (Int.not_lt.1 c0) k0.1 (oh (ny.nsX uU)).1 (Int.not_lt.1 c1)
 by_cases c2:n8 a.Tx (nZ a.Maps (n_ a.ov left))<0
 ·simp only[c2,decide_true,cond_true] at h0;omega
 exact nCl (ny.nA7 uU) (Int.not_lt.1 c1) k1.1 (Int.not_lt.1 c2)
def N8 (k_:Bytes→α) (n x:Int) (oD:Int→Rows→α) (i:Int) (nV:Rows):α:=
 bif decide (i<n) then
  bif Eb (Eb true (idx i nV)) (inl (Int.toNat i) nV) then
   oD (nM (i+1)) (List.set nV (Int.toNat i) (bQ (nth nV (Int.toNat i)) 0 [.int x]))
  else ke
 else k_ (toStr nV)
def N7 (k_:Bytes→α) (N:Nat) (n x:Int) (m_:Nat):Int→Rows→α:=
 Nat.rec (motive:=fun _=>Int→Rows→α) (fun _ _=>ke) (fun _ oD=>N8 ke k_ n x oD) m_
theorem XP (k_:Bytes→α) (N:Nat) (n x:Int) (m_:Nat):N7 ke k_ N n x (m_+1)=N8 ke k_ n x (N7 ke k_ N n x m_):=rfl
def V_ (k_:Bytes→α) (l0:Int→Rows→α) (n x:Int):α:=
 bif Eb true (yB 1 n n) then
  l0 0 (List.replicate (Int.toNat n) ([.int 0]:List DC))
 else ke
def ne4 (k_:Bytes→α) (N:Nat) (n x:Int):α:=V_ ke k_ (N7 ke k_ N n x N) n x
def QE (n x:Int):Bool:=bif decide (0≤n) then decide (n≤1000) else false
def NI (n x:Int):Bytes:=List.replicate n.toNat (UInt8.ofNat x.toNat)
theorem nck (n:Nat) {x:Int} (h0:0≤x) (h1:x≤255):(List.replicate n [DC.int x]:Rows)=ofStr (List.replicate n (UInt8.ofNat x.toNat)):=by
 simp only[ofStr,List.map_replicate,nBh h0 h1]
theorem nvz (k_:Bytes→α) (n x:Int) (h_x:G1 (.int .u8) (.int x)) (aJ:QE n x=true):∃N,ne4 ke k_ N n x=k_ (NI n x):=by
 obtain⟨h0,h1⟩:=nS.1 aJ
 have hx:0≤x∧x≤255:=by
  have h:=h_x
  simp only[G1,DC.int.injEq] at h
  obtain⟨m,rfl,h⟩:=h
  simpa [BS,IntKind.min,IntKind.max,IntKind.signed,IntKind.bits] using h
 refine⟨n.toNat+1, ?_⟩
 unfold ne4 V_ NI
 have hmk:yB 1 n n=true:=by simp only[yB,Bool.and_eq_true,decide_eq_true_eq];omega
 simp only[hmk,ng,cond_true]
 have hr:(List.replicate n.toNat [DC.int 0]:Rows).length=n.toNat:=by simp
 have:=nzT (List.replicate n.toNat [DC.int 0]) (N7 ke k_ (n.toNat+1) n x) (fun o=>k_ (toStr o)) (fun _=>[.int x]) ?_ ?_
 ·rw[hr] at this
  rw[this,List.map_replicate,nck _ hx.1 hx.2,Sf]
 ·intro q i o h ho hn
  rw[hr] at h
  rw[XP]
  have Ci:i<o.length:=by rw[ho,hr];exact h
  have en:nth o i=[DC.int 0]:=by
   rw[hn]
   simp only[nth,List.getD_eq_getElem?_getD]
   rw[List.getElem?_replicate_of_lt h]
   rfl
  simp only[N8,decide_eq_true (show (i:Int)<n by omega),nT Ci,sZ Ci,Int.toNat_natCast,ng,cond_true,en,naW,nQ (show -9223372036854775808≤(i:Int)+1 by omega) (show (i:Int)+1≤9223372036854775807 by omega)]
 ·intro q o ho
  rw[hr,XP]
  simp only[N8,decide_eq_false (show ¬((n.toNat:Nat):Int)<n by omega),cond_false]
def nlF (b n:Int):Bytes:=NI n b
def nfJ (b n:Int):Bool:=QE n b
def Pw (k_:Bytes→α) (b x:Int) (oD:Int→Rows→α) (nX:Int) (nV:Rows):α:=
 bif decide (nX<x) then
  bif Eb (Eb true (idx nX nV)) (inl (Int.toNat nX) nV) then
   oD (nM (nX+1)) (List.set nV (Int.toNat nX) (bQ (nth nV (Int.toNat nX)) 0 [.int b]))
  else ke
 else k_ (toStr nV)
def Pv (k_:Bytes→α) (N:Nat) (b x:Int) (m_:Nat):Int→Rows→α:=
 Nat.rec (motive:=fun _=>Int→Rows→α) (fun _ _=>ke) (fun _ oD=>Pw ke k_ b x oD) m_
theorem YF (k_:Bytes→α) (N:Nat) (b x:Int) (m_:Nat):Pv ke k_ N b x (m_+1)=Pw ke k_ b x (Pv ke k_ N b x m_):=rfl
def X5 (k_:Bytes→α) (l0:Int→Int→Rows→α) (b n:Int):α:=
 bif Eb true (yB 1 n n) then
  l0 (len (List.replicate (Int.toNat n) ([.int 0]:List DC))) 0 (List.replicate (Int.toNat n) ([.int 0]:List DC))
 else ke
def ngL (k_:Bytes→α) (N:Nat) (b n:Int):α:=X5 ke k_ (fun x=>Pv ke k_ N b x N) b n
theorem nwE (k_:Bytes→α) (b n:Int) (h_b:G1 (.int .u8) (.int b)) (aJ:nfJ b n=true):∃N,ngL ke k_ N b n=k_ (nlF b n):=by
 obtain⟨h0,h1⟩:=nS.1 (show (bif decide (0≤n) then decide (n≤1000) else false)=true from aJ)
 have hx:0≤b∧b≤255:=by
  have h:=h_b
  simp only[G1,DC.int.injEq] at h
  obtain⟨m,rfl,h⟩:=h
  simpa [BS,IntKind.min,IntKind.max,IntKind.signed,IntKind.bits] using h
 refine⟨n.toNat+1, ?_⟩
 unfold ngL X5 nlF NI
 have hmk:yB 1 n n=true:=by simp only[yB,Bool.and_eq_true,decide_eq_true_eq];omega
 simp only[hmk,ng,cond_true]
 have hr:(List.replicate n.toNat [DC.int 0]:Rows).length=n.toNat:=by simp
 have hn:(len (List.replicate n.toNat [DC.int 0]):Int)=n:=by simp only[len,hr];omega
 rw[hn]
 have:=nzT (List.replicate n.toNat [DC.int 0]) (Pv ke k_ (n.toNat+1) b n) (fun o=>k_ (toStr o)) (fun _=>[.int b]) ?_ ?_
 ·rw[hr] at this
  rw[this,List.map_replicate,nck _ hx.1 hx.2,Sf]
 ·intro q i o h ho hn
  rw[hr] at h
  rw[YF]
  have Ci:i<o.length:=by rw[ho,hr];exact h
  have en:nth o i=[DC.int 0]:=by
   rw[hn]
   simp only[nth,List.getD_eq_getElem?_getD]
   rw[List.getElem?_replicate_of_lt h]
   rfl
  simp only[Pw,decide_eq_true (show (i:Int)<n by omega),nT Ci,sZ Ci,Int.toNat_natCast,ng,cond_true,en,naW,nQ (show -9223372036854775808≤(i:Int)+1 by omega) (show (i:Int)+1≤9223372036854775807 by omega)]
 ·intro q o ho
  rw[hr,YF]
  simp only[Pw,decide_eq_false (show ¬((n.toNat:Nat):Int)<n by omega),cond_false]
def zT {α:Type} (k_:Bytes→α) (v:Int):α:=
 bif !(nf v 0 4294967295) then k_ []
 else k_ (toStr ([[.int (IntKind.wrap .u8 (ndb .i64 v 24))],[.int (IntKind.wrap .u8 (ndb .i64 v 16))],[.int (IntKind.wrap .u8 (ndb .i64 v 8))],[.int (IntKind.wrap .u8 v)]]))
def oJ (v:Int):Bytes:=zT id v
theorem nwy {α:Type} (k_:Bytes→α) (v:Int):zT k_ v=k_ (oJ v):=by
 exact J5 rfl rfl
def nx_ {α:Type} (k_:Bytes→α) (v:Int):α:=
 bif !(nf v 0 4294967295) then k_ []
 else k_ (toStr ([[.int (IntKind.wrap .u8 (ndb .i64 v 24))],[.int (IntKind.wrap .u8 (ndb .i64 v 16))],[.int (IntKind.wrap .u8 (ndb .i64 v 8))],[.int (IntKind.wrap .u8 v)]]))
theorem nx9 {α:Type} (k_:Bytes→α) (v:Int):nx_ k_ v=k_ (oJ v):=by
 exact J5 rfl rfl
end
end Go.Proofs.YtngbcccnjiaddaaGreat.Pl
