/- Plain forms. Conditions: as each says. -/
import Derived.Test.YtnlkklmcfafgeaaGreatPre
import Derived.Test.YtnlkklmcfafgeaaGreatLem
import Derived.Test.YtnlkklmcfafgeaaGreatDp
import Derived.Test.YtnlkklmcfafgeaaGreatBit
set_option linter.unusedVariables false
set_option linter.unusedSimpArgs false
set_option maxRecDepth 100000
namespace Go.Proofs.YtnlkklmcfafgeaaGreat.Pl
open Vm
noncomputable section
variable {α:Type} (kf:α)
structure nE where
 Mac:Int
 pI:Bool
 pV:Rows
def nE.enc (x:nE):List DC:=[.int x.Mac,.bool x.pI,.sl x.pV]
def nE.nc (r:List DC) (o:Nat):nE:=⟨rI r (o+0),rB r (o+1),rR r (o+2)⟩
def nE.ct:List CT:=[.i,.bool,.sl [.i]]
theorem nE.eta {r:List DC} (h:kd nE.ct r):(nE.nc r 0).enc=r:=(show (nE.nc r 0).enc=tf nE.ct r 0 from by kernel_rfl).trans (rL h)
theorem nE.nw {r:List CT} {ds:List DC} (h:kd (nE.ct++r) ds):∃(x:nE) (bc:List DC),ds=x.enc++bc∧kd nE.ct x.enc∧kd r bc:=by
 obtain⟨d1,d2,rfl,h1,h2⟩:=qB h
 exact⟨nE.nc d1 0,d2,by rw[nE.eta h1],by rw[nE.eta h1];exact h1,h2⟩
theorem nE.nvf {x:nE} (h:kd nE.ct x.enc):G5 (.sl [.i]) (.sl x.pV):=n_ 2 h rfl rfl
structure nV where
 Frames:Int
 Bad:Int
 qj:Int
 qQ:Int
 uf:Int
def nV.enc (x:nV):List DC:=[.int x.Frames,.int x.Bad,.int x.qj,.int x.qQ,.int x.uf]
def nV.nc (r:List DC) (o:Nat):nV:=⟨rI r (o+0),rI r (o+1),rI r (o+2),rI r (o+3),rI r (o+4)⟩
def nV.ct:List CT:=[.i,.i,.i,.i,.i]
theorem nV.eta {r:List DC} (h:kd nV.ct r):(nV.nc r 0).enc=r:=(show (nV.nc r 0).enc=tf nV.ct r 0 from by kernel_rfl).trans (rL h)
theorem nV.nw {r:List CT} {ds:List DC} (h:kd (nV.ct++r) ds):∃(x:nV) (bc:List DC),ds=x.enc++bc∧kd nV.ct x.enc∧kd r bc:=by
 obtain⟨d1,d2,rfl,h1,h2⟩:=qB h
 exact⟨nV.nc d1 0,d2,by rw[nV.eta h1],by rw[nV.eta h1];exact h1,h2⟩
structure nz where
 Kind:Int
 om:Int
 n9:Int
 Seq:Int
 Ack:Int
 Flags:Int
 sw:Int
 Body:Bytes
def nz.enc (x:nz):List DC:=[.int x.Kind,.int x.om,.int x.n9,.int x.Seq,.int x.Ack,.int x.Flags,.int x.sw,.str x.Body]
def nz.nc (r:List DC) (o:Nat):nz:=⟨rI r (o+0),rI r (o+1),rI r (o+2),rI r (o+3),rI r (o+4),rI r (o+5),rI r (o+6),rS r (o+7)⟩
def nz.ct:List CT:=[.i,.i,.i,.i,.i,.i,.i,.str]
theorem nz.eta {r:List DC} (h:kd nz.ct r):(nz.nc r 0).enc=r:=(show (nz.nc r 0).enc=tf nz.ct r 0 from by kernel_rfl).trans (rL h)
theorem nz.nw {r:List CT} {ds:List DC} (h:kd (nz.ct++r) ds):∃(x:nz) (bc:List DC),ds=x.enc++bc∧kd nz.ct x.enc∧kd r bc:=by
 obtain⟨d1,d2,rfl,h1,h2⟩:=qB h
 exact⟨nz.nc d1 0,d2,by rw[nz.eta h1],by rw[nz.eta h1];exact h1,h2⟩
theorem nz.nsC {x:nz} (h:kd nz.ct x.enc):G5 .i (.int x.Kind):=n_ 0 h rfl rfl
theorem nz.nkL {x:nz} (h:kd nz.ct x.enc):G5 .i (.int x.om):=n_ 1 h rfl rfl
theorem nz.nkK {x:nz} (h:kd nz.ct x.enc):G5 .i (.int x.n9):=n_ 2 h rfl rfl
theorem nz.nAb {x:nz} (h:kd nz.ct x.enc):G5 .i (.int x.Flags):=n_ 5 h rfl rfl
theorem nz.nxw {x:nz} (h:kd nz.ct x.enc):G5 .str (.str x.Body):=n_ 7 h rfl rfl
structure nj where
 sK:Int
 sW:Int
 rO:Int
 Tos:Int
 Id:Int
 Ttl:Int
 o_:Int
 qm:Int
 pG:nz
def nj.enc (x:nj):List DC:=[.int x.sK,.int x.sW,.int x.rO,.int x.Tos,.int x.Id,.int x.Ttl,.int x.o_,.int x.qm,.int x.pG.Kind,.int x.pG.om,.int x.pG.n9,.int x.pG.Seq,.int x.pG.Ack,.int x.pG.Flags,.int x.pG.sw,.str x.pG.Body]
def nj.nc (r:List DC) (o:Nat):nj:=⟨rI r (o+0),rI r (o+1),rI r (o+2),rI r (o+3),rI r (o+4),rI r (o+5),rI r (o+6),rI r (o+7),nz.nc r (o+8)⟩
def nj.ct:List CT:=[.i,.i,.i,.i,.i,.i,.i,.i,.i,.i,.i,.i,.i,.i,.i,.str]
theorem nj.eta {r:List DC} (h:kd nj.ct r):(nj.nc r 0).enc=r:=(show (nj.nc r 0).enc=tf nj.ct r 0 from by kernel_rfl).trans (rL h)
theorem nj.nw {r:List CT} {ds:List DC} (h:kd (nj.ct++r) ds):∃(x:nj) (bc:List DC),ds=x.enc++bc∧kd nj.ct x.enc∧kd r bc:=by
 obtain⟨d1,d2,rfl,h1,h2⟩:=qB h
 exact⟨nj.nc d1 0,d2,by rw[nj.eta h1],by rw[nj.eta h1];exact h1,h2⟩
theorem nj.ny5 {x:nj} (h:kd nj.ct x.enc):G5 .i (.int x.rO):=n_ 2 h rfl rfl
theorem nj.nA4 {x:nj} (h:kd nj.ct x.enc):G5 .i (.int x.Tos):=n_ 3 h rfl rfl
theorem nj.nBc {x:nj} (h:kd nj.ct x.enc):G5 .i (.int x.Id):=n_ 4 h rfl rfl
theorem nj.nA5 {x:nj} (h:kd nj.ct x.enc):G5 .i (.int x.Ttl):=n_ 5 h rfl rfl
theorem nj.nm1 {x:nj} (h:kd nj.ct x.enc):G5 .i (.int x.o_):=n_ 6 h rfl rfl
theorem nj.nvc {x:nj} (h:kd nj.ct x.enc):G5 .i (.int x.qm):=n_ 7 h rfl rfl
theorem nj.nA2 {x:nj} (h:kd nj.ct x.enc):kd nz.ct x.pG.enc:=zg 8 8 h
structure nU where
 nM:nj
 nO:Int
 Count:Int
def nU.enc (x:nU):List DC:=[.int x.nM.sK,.int x.nM.sW,.int x.nM.rO,.int x.nM.Tos,.int x.nM.Id,.int x.nM.Ttl,.int x.nM.o_,.int x.nM.qm,.int x.nM.pG.Kind,.int x.nM.pG.om,.int x.nM.pG.n9,.int x.nM.pG.Seq,.int x.nM.pG.Ack,.int x.nM.pG.Flags,.int x.nM.pG.sw,.str x.nM.pG.Body,.int x.nO,.int x.Count]
def nU.nc (r:List DC) (o:Nat):nU:=⟨nj.nc r (o+0),rI r (o+16),rI r (o+17)⟩
def nU.ct:List CT:=[.i,.i,.i,.i,.i,.i,.i,.i,.i,.i,.i,.i,.i,.i,.i,.str,.i,.i]
theorem nU.eta {r:List DC} (h:kd nU.ct r):(nU.nc r 0).enc=r:=(show (nU.nc r 0).enc=tf nU.ct r 0 from by kernel_rfl).trans (rL h)
theorem nU.nw {r:List CT} {ds:List DC} (h:kd (nU.ct++r) ds):∃(x:nU) (bc:List DC),ds=x.enc++bc∧kd nU.ct x.enc∧kd r bc:=by
 obtain⟨d1,d2,rfl,h1,h2⟩:=qB h
 exact⟨nU.nc d1 0,d2,by rw[nU.eta h1],by rw[nU.eta h1];exact h1,h2⟩
theorem nU.nzo {x:nU} (h:kd nU.ct x.enc):kd nj.ct x.nM.enc:=zg 0 16 h
theorem nU.nm0 {x:nU} (h:kd nU.ct x.enc):G5 .i (.int x.nO):=n_ 16 h rfl rfl
theorem nU.nmZ {x:nU} (h:kd nU.ct x.enc):G5 .i (.int x.Count):=n_ 17 h rfl rfl
structure n8 where
 qk:Int
 nO:Int
 Head:Int
 wI:Int
def n8.enc (x:n8):List DC:=[.int x.qk,.int x.nO,.int x.Head,.int x.wI]
def n8.nc (r:List DC) (o:Nat):n8:=⟨rI r (o+0),rI r (o+1),rI r (o+2),rI r (o+3)⟩
def n8.ct:List CT:=[.i,.i,.i,.i]
theorem n8.eta {r:List DC} (h:kd n8.ct r):(n8.nc r 0).enc=r:=(show (n8.nc r 0).enc=tf n8.ct r 0 from by kernel_rfl).trans (rL h)
theorem n8.nw {r:List CT} {ds:List DC} (h:kd (n8.ct++r) ds):∃(x:n8) (bc:List DC),ds=x.enc++bc∧kd n8.ct x.enc∧kd r bc:=by
 obtain⟨d1,d2,rfl,h1,h2⟩:=qB h
 exact⟨n8.nc d1 0,d2,by rw[n8.eta h1],by rw[n8.eta h1];exact h1,h2⟩
theorem n8.ny3 {x:n8} (h:kd n8.ct x.enc):G5 .i (.int x.qk):=n_ 0 h rfl rfl
theorem n8.nm0 {x:n8} (h:kd n8.ct x.enc):G5 .i (.int x.nO):=n_ 1 h rfl rfl
theorem n8.nAw {x:n8} (h:kd n8.ct x.enc):G5 .i (.int x.Head):=n_ 2 h rfl rfl
theorem n8.nAA {x:n8} (h:kd n8.ct x.enc):G5 .i (.int x.wI):=n_ 3 h rfl rfl
structure nd where
 qk:Int
 nO:Int
 Count:Int
def nd.enc (x:nd):List DC:=[.int x.qk,.int x.nO,.int x.Count]
def nd.nc (r:List DC) (o:Nat):nd:=⟨rI r (o+0),rI r (o+1),rI r (o+2)⟩
def nd.ct:List CT:=[.i,.i,.i]
theorem nd.eta {r:List DC} (h:kd nd.ct r):(nd.nc r 0).enc=r:=(show (nd.nc r 0).enc=tf nd.ct r 0 from by kernel_rfl).trans (rL h)
theorem nd.nw {r:List CT} {ds:List DC} (h:kd (nd.ct++r) ds):∃(x:nd) (bc:List DC),ds=x.enc++bc∧kd nd.ct x.enc∧kd r bc:=by
 obtain⟨d1,d2,rfl,h1,h2⟩:=qB h
 exact⟨nd.nc d1 0,d2,by rw[nd.eta h1],by rw[nd.eta h1];exact h1,h2⟩
theorem nd.ny3 {x:nd} (h:kd nd.ct x.enc):G5 .i (.int x.qk):=n_ 0 h rfl rfl
theorem nd.nm0 {x:nd} (h:kd nd.ct x.enc):G5 .i (.int x.nO):=n_ 1 h rfl rfl
theorem nd.nmZ {x:nd} (h:kd nd.ct x.enc):G5 .i (.int x.Count):=n_ 2 h rfl rfl
structure nh where
 Ring:n8
 Device:nd
 Driver:nd
 ql:nU
 sV:Bool
 vJ:Int
def nh.enc (x:nh):List DC:=[.int x.Ring.qk,.int x.Ring.nO,.int x.Ring.Head,.int x.Ring.wI,.int x.Device.qk,.int x.Device.nO,.int x.Device.Count,.int x.Driver.qk,.int x.Driver.nO,.int x.Driver.Count,.int x.ql.nM.sK,.int x.ql.nM.sW,.int x.ql.nM.rO,.int x.ql.nM.Tos,.int x.ql.nM.Id,.int x.ql.nM.Ttl,.int x.ql.nM.o_,.int x.ql.nM.qm,.int x.ql.nM.pG.Kind,.int x.ql.nM.pG.om,.int x.ql.nM.pG.n9,.int x.ql.nM.pG.Seq,.int x.ql.nM.pG.Ack,.int x.ql.nM.pG.Flags,.int x.ql.nM.pG.sw,.str x.ql.nM.pG.Body,.int x.ql.nO,.int x.ql.Count,.bool x.sV,.int x.vJ]
def nh.nc (r:List DC) (o:Nat):nh:=⟨n8.nc r (o+0),nd.nc r (o+4),nd.nc r (o+7),nU.nc r (o+10),rB r (o+28),rI r (o+29)⟩
def nh.ct:List CT:=[.i,.i,.i,.i,.i,.i,.i,.i,.i,.i,.i,.i,.i,.i,.i,.i,.i,.i,.i,.i,.i,.i,.i,.i,.i,.str,.i,.i,.bool,.i]
theorem nh.eta {r:List DC} (h:kd nh.ct r):(nh.nc r 0).enc=r:=(show (nh.nc r 0).enc=tf nh.ct r 0 from by kernel_rfl).trans (rL h)
theorem nh.nw {r:List CT} {ds:List DC} (h:kd (nh.ct++r) ds):∃(x:nh) (bc:List DC),ds=x.enc++bc∧kd nh.ct x.enc∧kd r bc:=by
 obtain⟨d1,d2,rfl,h1,h2⟩:=qB h
 exact⟨nh.nc d1 0,d2,by rw[nh.eta h1],by rw[nh.eta h1];exact h1,h2⟩
theorem nh.nAz {x:nh} (h:kd nh.ct x.enc):kd n8.ct x.Ring.enc:=zg 0 4 h
theorem nh.nAx {x:nh} (h:kd nh.ct x.enc):kd nU.ct x.ql.enc:=zg 10 18 h
structure na where
 nP:Rows
def na.enc (x:na):List DC:=[.sl x.nP]
def na.nc (r:List DC) (o:Nat):na:=⟨rR r (o+0)⟩
def na.ct:List CT:=[.sl [.str]]
theorem na.eta {r:List DC} (h:kd na.ct r):(na.nc r 0).enc=r:=(show (na.nc r 0).enc=tf na.ct r 0 from by kernel_rfl).trans (rL h)
theorem na.nw {r:List CT} {ds:List DC} (h:kd (na.ct++r) ds):∃(x:na) (bc:List DC),ds=x.enc++bc∧kd na.ct x.enc∧kd r bc:=by
 obtain⟨d1,d2,rfl,h1,h2⟩:=qB h
 exact⟨na.nc d1 0,d2,by rw[na.eta h1],by rw[na.eta h1];exact h1,h2⟩
theorem na.xz {x:na} (h:kd na.ct x.enc):G5 (.sl [.str]) (.sl x.nP):=n_ 0 h rfl rfl
structure oN where
 nyi:Int
 nwW:Int
 nsG:Int
 nsJ:Bool
def oN.enc (x:oN):List DC:=[.int x.nyi,.int x.nwW,.int x.nsG,.bool x.nsJ]
def oN.nc (r:List DC) (o:Nat):oN:=⟨rI r (o+0),rI r (o+1),rI r (o+2),rB r (o+3)⟩
def oN.ct:List CT:=[.i,.i,.i,.bool]
theorem oN.eta {r:List DC} (h:kd oN.ct r):(oN.nc r 0).enc=r:=(show (oN.nc r 0).enc=tf oN.ct r 0 from by kernel_rfl).trans (rL h)
theorem oN.nw {r:List CT} {ds:List DC} (h:kd (oN.ct++r) ds):∃(x:oN) (bc:List DC),ds=x.enc++bc∧kd oN.ct x.enc∧kd r bc:=by
 obtain⟨d1,d2,rfl,h1,h2⟩:=qB h
 exact⟨oN.nc d1 0,d2,by rw[oN.eta h1],by rw[oN.eta h1];exact h1,h2⟩
structure nA where
 zn:Int
 PH:Int
 Count:Int
 Time:Int
 Rc:Bool
 Rd:Bool
def nA.enc (x:nA):List DC:=[.int x.zn,.int x.PH,.int x.Count,.int x.Time,.bool x.Rc,.bool x.Rd]
def nA.nc (r:List DC) (o:Nat):nA:=⟨rI r (o+0),rI r (o+1),rI r (o+2),rI r (o+3),rB r (o+4),rB r (o+5)⟩
def nA.ct:List CT:=[.i,.i,.i,.i,.bool,.bool]
theorem nA.eta {r:List DC} (h:kd nA.ct r):(nA.nc r 0).enc=r:=(show (nA.nc r 0).enc=tf nA.ct r 0 from by kernel_rfl).trans (rL h)
theorem nA.nw {r:List CT} {ds:List DC} (h:kd (nA.ct++r) ds):∃(x:nA) (bc:List DC),ds=x.enc++bc∧kd nA.ct x.enc∧kd r bc:=by
 obtain⟨d1,d2,rfl,h1,h2⟩:=qB h
 exact⟨nA.nc d1 0,d2,by rw[nA.eta h1],by rw[nA.eta h1];exact h1,h2⟩
theorem nA.nmZ {x:nA} (h:kd nA.ct x.enc):G5 .i (.int x.Count):=n_ 2 h rfl rfl
structure nG where
 Kind:Int
 o_:Int
 qm:Int
 om:Int
 n9:Int
def nG.enc (x:nG):List DC:=[.int x.Kind,.int x.o_,.int x.qm,.int x.om,.int x.n9]
def nG.nc (r:List DC) (o:Nat):nG:=⟨rI r (o+0),rI r (o+1),rI r (o+2),rI r (o+3),rI r (o+4)⟩
def nG.ct:List CT:=[.i,.i,.i,.i,.i]
theorem nG.eta {r:List DC} (h:kd nG.ct r):(nG.nc r 0).enc=r:=(show (nG.nc r 0).enc=tf nG.ct r 0 from by kernel_rfl).trans (rL h)
theorem nG.nw {r:List CT} {ds:List DC} (h:kd (nG.ct++r) ds):∃(x:nG) (bc:List DC),ds=x.enc++bc∧kd nG.ct x.enc∧kd r bc:=by
 obtain⟨d1,d2,rfl,h1,h2⟩:=qB h
 exact⟨nG.nc d1 0,d2,by rw[nG.eta h1],by rw[nG.eta h1];exact h1,h2⟩
theorem nG.nsC {x:nG} (h:kd nG.ct x.enc):G5 .i (.int x.Kind):=n_ 0 h rfl rfl
theorem nG.nm1 {x:nG} (h:kd nG.ct x.enc):G5 .i (.int x.o_):=n_ 1 h rfl rfl
theorem nG.nvc {x:nG} (h:kd nG.ct x.enc):G5 .i (.int x.qm):=n_ 2 h rfl rfl
theorem nG.nkL {x:nG} (h:kd nG.ct x.enc):G5 .i (.int x.om):=n_ 3 h rfl rfl
theorem nG.nkK {x:nG} (h:kd nG.ct x.enc):G5 .i (.int x.n9):=n_ 4 h rfl rfl
structure oh where
 UY:nG
 Next:Int
 Data:Bytes
 nAe:Bool
def oh.enc (x:oh):List DC:=[.int x.UY.Kind,.int x.UY.o_,.int x.UY.qm,.int x.UY.om,.int x.UY.n9,.int x.Next,.str x.Data,.bool x.nAe]
def oh.nc (r:List DC) (o:Nat):oh:=⟨nG.nc r (o+0),rI r (o+5),rS r (o+6),rB r (o+7)⟩
def oh.ct:List CT:=[.i,.i,.i,.i,.i,.i,.str,.bool]
theorem oh.eta {r:List DC} (h:kd oh.ct r):(oh.nc r 0).enc=r:=(show (oh.nc r 0).enc=tf oh.ct r 0 from by kernel_rfl).trans (rL h)
theorem oh.nw {r:List CT} {ds:List DC} (h:kd (oh.ct++r) ds):∃(x:oh) (bc:List DC),ds=x.enc++bc∧kd oh.ct x.enc∧kd r bc:=by
 obtain⟨d1,d2,rfl,h1,h2⟩:=qB h
 exact⟨oh.nc d1 0,d2,by rw[oh.eta h1],by rw[oh.eta h1];exact h1,h2⟩
theorem oh.nAv {x:oh} (h:kd oh.ct x.enc):kd nG.ct x.UY.enc:=zg 0 5 h
theorem oh.nAy {x:oh} (h:kd oh.ct x.enc):G5 .i (.int x.Next):=n_ 5 h rfl rfl
theorem oh.nAu {x:oh} (h:kd oh.ct x.enc):G5 .str (.str x.Data):=n_ 6 h rfl rfl
structure nB where
 Key:Bytes
 Table:Rows
def nB.enc (x:nB):List DC:=[.str x.Key,.sl x.Table]
def nB.nc (r:List DC) (o:Nat):nB:=⟨rS r (o+0),rR r (o+1)⟩
def nB.ct:List CT:=[.str,.sl [.i]]
theorem nB.eta {r:List DC} (h:kd nB.ct r):(nB.nc r 0).enc=r:=(show (nB.nc r 0).enc=tf nB.ct r 0 from by kernel_rfl).trans (rL h)
theorem nB.nw {r:List CT} {ds:List DC} (h:kd (nB.ct++r) ds):∃(x:nB) (bc:List DC),ds=x.enc++bc∧kd nB.ct x.enc∧kd r bc:=by
 obtain⟨d1,d2,rfl,h1,h2⟩:=qB h
 exact⟨nB.nc d1 0,d2,by rw[nB.eta h1],by rw[nB.eta h1];exact h1,h2⟩
theorem nB.nA0 {x:nB} (h:kd nB.ct x.enc):G5 .str (.str x.Key):=n_ 0 h rfl rfl
theorem nB.W8 {x:nB} (h:kd nB.ct x.enc):G5 (.sl [.i]) (.sl x.Table):=n_ 1 h rfl rfl
structure oZ where
 uz:Int
 nC:Int
 PD:Rows
def oZ.enc (x:oZ):List DC:=[.int x.uz,.int x.nC,.sl x.PD]
def oZ.nc (r:List DC) (o:Nat):oZ:=⟨rI r (o+0),rI r (o+1),rR r (o+2)⟩
def oZ.ct:List CT:=[.i,.i,.sl [.i]]
theorem oZ.eta {r:List DC} (h:kd oZ.ct r):(oZ.nc r 0).enc=r:=(show (oZ.nc r 0).enc=tf oZ.ct r 0 from by kernel_rfl).trans (rL h)
theorem oZ.nw {r:List CT} {ds:List DC} (h:kd (oZ.ct++r) ds):∃(x:oZ) (bc:List DC),ds=x.enc++bc∧kd oZ.ct x.enc∧kd r bc:=by
 obtain⟨d1,d2,rfl,h1,h2⟩:=qB h
 exact⟨oZ.nc d1 0,d2,by rw[oZ.eta h1],by rw[oZ.eta h1];exact h1,h2⟩
theorem oZ.nwO {x:oZ} (h:kd oZ.ct x.enc):G5 .i (.int x.uz):=n_ 0 h rfl rfl
theorem oZ.W7 {x:oZ} (h:kd oZ.ct x.enc):G5 .i (.int x.nC):=n_ 1 h rfl rfl
theorem oZ.nvb {x:oZ} (h:kd oZ.ct x.enc):G5 (.sl [.i]) (.sl x.PD):=n_ 2 h rfl rfl
structure nJ where
 qk:Int
 nO:Int
 Count:Int
 qs:Rows
def nJ.enc (x:nJ):List DC:=[.int x.qk,.int x.nO,.int x.Count,.sl x.qs]
def nJ.nc (r:List DC) (o:Nat):nJ:=⟨rI r (o+0),rI r (o+1),rI r (o+2),rR r (o+3)⟩
def nJ.ct:List CT:=[.i,.i,.i,.sl [.i]]
theorem nJ.eta {r:List DC} (h:kd nJ.ct r):(nJ.nc r 0).enc=r:=(show (nJ.nc r 0).enc=tf nJ.ct r 0 from by kernel_rfl).trans (rL h)
theorem nJ.nw {r:List CT} {ds:List DC} (h:kd (nJ.ct++r) ds):∃(x:nJ) (bc:List DC),ds=x.enc++bc∧kd nJ.ct x.enc∧kd r bc:=by
 obtain⟨d1,d2,rfl,h1,h2⟩:=qB h
 exact⟨nJ.nc d1 0,d2,by rw[nJ.eta h1],by rw[nJ.eta h1];exact h1,h2⟩
theorem nJ.ny3 {x:nJ} (h:kd nJ.ct x.enc):G5 .i (.int x.qk):=n_ 0 h rfl rfl
theorem nJ.nm0 {x:nJ} (h:kd nJ.ct x.enc):G5 .i (.int x.nO):=n_ 1 h rfl rfl
theorem nJ.nmZ {x:nJ} (h:kd nJ.ct x.enc):G5 .i (.int x.Count):=n_ 2 h rfl rfl
theorem nJ.nsB {x:nJ} (h:kd nJ.ct x.enc):G5 (.sl [.i]) (.sl x.qs):=n_ 3 h rfl rfl
structure nt where
 Ring:n8
 oq:nJ
 nK:Rows
 Next:Int
def nt.enc (x:nt):List DC:=[.int x.Ring.qk,.int x.Ring.nO,.int x.Ring.Head,.int x.Ring.wI,.int x.oq.qk,.int x.oq.nO,.int x.oq.Count,.sl x.oq.qs,.sl x.nK,.int x.Next]
def nt.nc (r:List DC) (o:Nat):nt:=⟨n8.nc r (o+0),nJ.nc r (o+4),rR r (o+8),rI r (o+9)⟩
def nt.ct:List CT:=[.i,.i,.i,.i,.i,.i,.i,.sl [.i],.sl [.i,.i,.sl [.i]],.i]
theorem nt.eta {r:List DC} (h:kd nt.ct r):(nt.nc r 0).enc=r:=(show (nt.nc r 0).enc=tf nt.ct r 0 from by kernel_rfl).trans (rL h)
theorem nt.nw {r:List CT} {ds:List DC} (h:kd (nt.ct++r) ds):∃(x:nt) (bc:List DC),ds=x.enc++bc∧kd nt.ct x.enc∧kd r bc:=by
 obtain⟨d1,d2,rfl,h1,h2⟩:=qB h
 exact⟨nt.nc d1 0,d2,by rw[nt.eta h1],by rw[nt.eta h1];exact h1,h2⟩
theorem nt.nAz {x:nt} (h:kd nt.ct x.enc):kd n8.ct x.Ring.enc:=zg 0 4 h
theorem nt.nxy {x:nt} (h:kd nt.ct x.enc):kd nJ.ct x.oq.enc:=zg 4 4 h
theorem nt.Sb {x:nt} (h:kd nt.ct x.enc):G5 (.sl [.i,.i,.sl [.i]]) (.sl x.nK):=n_ 8 h rfl rfl
theorem nt.nAy {x:nt} (h:kd nt.ct x.enc):G5 .i (.int x.Next):=n_ 9 h rfl rfl
structure oE where
 Priority:Int
 Kind:Int
 o_:Int
 vK:Int
 yw:Int
 NP:Int
 rO:Int
 Action:Int
 Queue:Int
def oE.enc (x:oE):List DC:=[.int x.Priority,.int x.Kind,.int x.o_,.int x.vK,.int x.yw,.int x.NP,.int x.rO,.int x.Action,.int x.Queue]
def oE.nc (r:List DC) (o:Nat):oE:=⟨rI r (o+0),rI r (o+1),rI r (o+2),rI r (o+3),rI r (o+4),rI r (o+5),rI r (o+6),rI r (o+7),rI r (o+8)⟩
def oE.ct:List CT:=[.i,.i,.i,.i,.i,.i,.i,.i,.i]
theorem oE.eta {r:List DC} (h:kd oE.ct r):(oE.nc r 0).enc=r:=(show (oE.nc r 0).enc=tf oE.ct r 0 from by kernel_rfl).trans (rL h)
theorem oE.nw {r:List CT} {ds:List DC} (h:kd (oE.ct++r) ds):∃(x:oE) (bc:List DC),ds=x.enc++bc∧kd oE.ct x.enc∧kd r bc:=by
 obtain⟨d1,d2,rfl,h1,h2⟩:=qB h
 exact⟨oE.nc d1 0,d2,by rw[oE.eta h1],by rw[oE.eta h1];exact h1,h2⟩
theorem oE.nsC {x:oE} (h:kd oE.ct x.enc):G5 .i (.int x.Kind):=n_ 1 h rfl rfl
theorem oE.nm1 {x:oE} (h:kd oE.ct x.enc):G5 .i (.int x.o_):=n_ 2 h rfl rfl
theorem oE.ny5 {x:oE} (h:kd oE.ct x.enc):G5 .i (.int x.rO):=n_ 6 h rfl rfl
theorem oE.nAc {x:oE} (h:kd oE.ct x.enc):G5 .i (.int x.Queue):=n_ 8 h rfl rfl
structure rD where
 State:Int
 UY:nG
 Queue:Int
def rD.enc (x:rD):List DC:=[.int x.State,.int x.UY.Kind,.int x.UY.o_,.int x.UY.qm,.int x.UY.om,.int x.UY.n9,.int x.Queue]
def rD.nc (r:List DC) (o:Nat):rD:=⟨rI r (o+0),nG.nc r (o+1),rI r (o+6)⟩
def rD.ct:List CT:=[.i,.i,.i,.i,.i,.i,.i]
theorem rD.eta {r:List DC} (h:kd rD.ct r):(rD.nc r 0).enc=r:=(show (rD.nc r 0).enc=tf rD.ct r 0 from by kernel_rfl).trans (rL h)
theorem rD.nw {r:List CT} {ds:List DC} (h:kd (rD.ct++r) ds):∃(x:rD) (bc:List DC),ds=x.enc++bc∧kd rD.ct x.enc∧kd r bc:=by
 obtain⟨d1,d2,rfl,h1,h2⟩:=qB h
 exact⟨rD.nc d1 0,d2,by rw[rD.eta h1],by rw[rD.eta h1];exact h1,h2⟩
theorem rD.nAv {x:rD} (h:kd rD.ct x.enc):kd nG.ct x.UY.enc:=zg 1 5 h
theorem rD.nAc {x:rD} (h:kd rD.ct x.enc):G5 .i (.int x.Queue):=n_ 6 h rfl rfl
structure ni where
 nC:Rows
def ni.enc (x:ni):List DC:=[.sl x.nC]
def ni.nc (r:List DC) (o:Nat):ni:=⟨rR r (o+0)⟩
def ni.ct:List CT:=[.sl [.i,.i,.i,.i,.i,.i,.i]]
theorem ni.eta {r:List DC} (h:kd ni.ct r):(ni.nc r 0).enc=r:=(show (ni.nc r 0).enc=tf ni.ct r 0 from by kernel_rfl).trans (rL h)
theorem ni.nw {r:List CT} {ds:List DC} (h:kd (ni.ct++r) ds):∃(x:ni) (bc:List DC),ds=x.enc++bc∧kd ni.ct x.enc∧kd r bc:=by
 obtain⟨d1,d2,rfl,h1,h2⟩:=qB h
 exact⟨ni.nc d1 0,d2,by rw[ni.eta h1],by rw[ni.eta h1];exact h1,h2⟩
theorem ni.W7 {x:ni} (h:kd ni.ct x.enc):G5 (.sl [.i,.i,.i,.i,.i,.i,.i]) (.sl x.nC):=n_ 0 h rfl rfl
structure nm where
 ot:Rows
 Table:ni
 nX:nB
def nm.enc (x:nm):List DC:=[.sl x.ot,.sl x.Table.nC,.str x.nX.Key,.sl x.nX.Table]
def nm.nc (r:List DC) (o:Nat):nm:=⟨rR r (o+0),ni.nc r (o+1),nB.nc r (o+2)⟩
def nm.ct:List CT:=[.sl [.i,.i,.i,.i,.i,.i,.i,.i,.i],.sl [.i,.i,.i,.i,.i,.i,.i],.str,.sl [.i]]
theorem nm.eta {r:List DC} (h:kd nm.ct r):(nm.nc r 0).enc=r:=(show (nm.nc r 0).enc=tf nm.ct r 0 from by kernel_rfl).trans (rL h)
theorem nm.nw {r:List CT} {ds:List DC} (h:kd (nm.ct++r) ds):∃(x:nm) (bc:List DC),ds=x.enc++bc∧kd nm.ct x.enc∧kd r bc:=by
 obtain⟨d1,d2,rfl,h1,h2⟩:=qB h
 exact⟨nm.nc d1 0,d2,by rw[nm.eta h1],by rw[nm.eta h1];exact h1,h2⟩
theorem nm.nve {x:nm} (h:kd nm.ct x.enc):G5 (.sl [.i,.i,.i,.i,.i,.i,.i,.i,.i]) (.sl x.ot):=n_ 0 h rfl rfl
theorem nm.W8 {x:nm} (h:kd nm.ct x.enc):kd ni.ct x.Table.enc:=zg 1 1 h
theorem nm.nzp {x:nm} (h:kd nm.ct x.enc):kd nB.ct x.nX.enc:=zg 2 2 h
structure ny where
 ox:na
 Maps:Rows
 Tx:nt
 Rx:Rows
 og:Rows
 nS:Rows
 oQ:Rows
 Filter:nE
 nv:nm
 pJ:Rows
 qe:Bool
 vM:Rows
 oF:Rows
 oY:Rows
 Counters:nV
def ny.enc (x:ny):List DC:=[.sl x.ox.nP,.sl x.Maps,.int x.Tx.Ring.qk,.int x.Tx.Ring.nO,.int x.Tx.Ring.Head,.int x.Tx.Ring.wI,.int x.Tx.oq.qk,.int x.Tx.oq.nO,.int x.Tx.oq.Count,.sl x.Tx.oq.qs,.sl x.Tx.nK,.int x.Tx.Next,.sl x.Rx,.sl x.og,.sl x.nS,.sl x.oQ,.int x.Filter.Mac,.bool x.Filter.pI,.sl x.Filter.pV,.sl x.nv.ot,.sl x.nv.Table.nC,.str x.nv.nX.Key,.sl x.nv.nX.Table,.sl x.pJ,.bool x.qe,.sl x.vM,.sl x.oF,.sl x.oY,.int x.Counters.Frames,.int x.Counters.Bad,.int x.Counters.qj,.int x.Counters.qQ,.int x.Counters.uf]
def ny.nc (r:List DC) (o:Nat):ny:=⟨na.nc r (o+0),rR r (o+1),nt.nc r (o+2),rR r (o+12),rR r (o+13),rR r (o+14),rR r (o+15),nE.nc r (o+16),nm.nc r (o+19),rR r (o+23),rB r (o+24),rR r (o+25),rR r (o+26),rR r (o+27),nV.nc r (o+28)⟩
def ny.ct:List CT:=[.sl [.str],.sl [.i,.i,.i,.bool],.i,.i,.i,.i,.i,.i,.i,.sl [.i],.sl [.i,.i,.sl [.i]],.i,.sl [.i,.i,.i,.i,.i,.i,.i,.i,.i,.i,.i,.i,.i,.i,.i,.i,.i,.i,.i,.i,.i,.i,.i,.i,.i,.str,.i,.i,.bool,.i],.sl [.i,.i,.i,.sl [.i]],.sl [.i,.i,.i,.i,.bool,.bool],.sl [.bool],.i,.bool,.sl [.i],.sl [.i,.i,.i,.i,.i,.i,.i,.i,.i],.sl [.i,.i,.i,.i,.i,.i,.i],.str,.sl [.i],.sl [.i,.i,.i,.i,.i,.i,.str,.bool],.bool,.sl [.str],.sl [.i],.sl [.i],.i,.i,.i,.i,.i]
theorem ny.eta {r:List DC} (h:kd ny.ct r):(ny.nc r 0).enc=r:=(show (ny.nc r 0).enc=tf ny.ct r 0 from by kernel_rfl).trans (rL h)
theorem ny.nw {r:List CT} {ds:List DC} (h:kd (ny.ct++r) ds):∃(x:ny) (bc:List DC),ds=x.enc++bc∧kd ny.ct x.enc∧kd r bc:=by
 obtain⟨d1,d2,rfl,h1,h2⟩:=qB h
 exact⟨ny.nc d1 0,d2,by rw[ny.eta h1],by rw[ny.eta h1];exact h1,h2⟩
theorem ny.nwP {x:ny} (h:kd ny.ct x.enc):kd na.ct x.ox.enc:=zg 0 1 h
theorem ny.ny4 {x:ny} (h:kd ny.ct x.enc):G5 (.sl [.i,.i,.i,.bool]) (.sl x.Maps):=n_ 1 h rfl rfl
theorem ny.nAE {x:ny} (h:kd ny.ct x.enc):kd nt.ct x.Tx.enc:=zg 2 10 h
theorem ny.nAd {x:ny} (h:kd ny.ct x.enc):G5 (.sl [.i,.i,.i,.i,.i,.i,.i,.i,.i,.i,.i,.i,.i,.i,.i,.i,.i,.i,.i,.i,.i,.i,.i,.i,.i,.str,.i,.i,.bool,.i]) (.sl x.Rx):=n_ 12 h rfl rfl
theorem ny.nvd {x:ny} (h:kd ny.ct x.enc):G5 (.sl [.i,.i,.i,.sl [.i]]) (.sl x.og):=n_ 13 h rfl rfl
theorem ny.nkM {x:ny} (h:kd ny.ct x.enc):G5 (.sl [.i,.i,.i,.i,.bool,.bool]) (.sl x.nS):=n_ 14 h rfl rfl
theorem ny.nyI {x:ny} (h:kd ny.ct x.enc):G5 (.sl [.bool]) (.sl x.oQ):=n_ 15 h rfl rfl
theorem ny.nzn {x:ny} (h:kd ny.ct x.enc):kd nE.ct x.Filter.enc:=zg 16 3 h
theorem ny.nyf {x:ny} (h:kd ny.ct x.enc):kd nm.ct x.nv.enc:=zg 19 4 h
theorem ny.nyJ {x:ny} (h:kd ny.ct x.enc):G5 (.sl [.i,.i,.i,.i,.i,.i,.str,.bool]) (.sl x.pJ):=n_ 23 h rfl rfl
theorem ny.nAB {x:ny} (h:kd ny.ct x.enc):G5 (.sl [.str]) (.sl x.vM):=n_ 25 h rfl rfl
theorem ny.nxx {x:ny} (h:kd ny.ct x.enc):G5 (.sl [.i]) (.sl x.oF):=n_ 26 h rfl rfl
theorem ny.nye {x:ny} (h:kd ny.ct x.enc):G5 (.sl [.i]) (.sl x.oY):=n_ 27 h rfl rfl
def toL (rf:List DC→List DC) {α:Type} (kf:α) (Y:Rows→α) (a:Rows) (ov:Int→Rows→α) (i:Int) (out:Rows):α:=
 bif decide (i<len a) then bif Ed (Ed (Ed true (idx i a)) (idx i out)) (inl (Int.toNat i) out) then ov (nL (i+1)) (List.set out (Int.toNat i) (bX (nth out (Int.toNat i)) 0 (rf (nth a (Int.toNat i))))) else kf else Y out
def npl (rf:List DC→List DC) {α:Type} (kf:α) (Y:Rows→α) (N:Nat) (a:Rows) (m_:Nat):Int→Rows→α:=
 Nat.rec (motive:=fun _=>Int→Rows→α) (fun _ _=>kf) (fun _ ov=>toL rf kf Y a ov) m_
def toT (z:Nat) (d:List DC) {α:Type} (kf:α) (Y:Rows→α) (l0:Int→Rows→α) (a:Rows):α:=
 bif Ed true (xq z (len a) (len a)) then l0 0 (List.replicate (Int.toNat (len a)) d) else kf
def nbv (z:Nat) (d:List DC) (rf:List DC→List DC) {α:Type} (kf:α) (Y:Rows→α) (N:Nat) (a:Rows):α:=toT z d kf Y (npl rf kf Y N a N) a
theorem nxv (z:Nat) (hz:z≤8388608) (d:List DC) (rf:List DC→List DC) (kf:α) (Y:Rows→α) (a:Rows) (hl:a.length≤9223372036854775807) (Je:sm a=true) (hr:∀r∈a,bX d 0 (rf r)=r):∃N,nbv z d rf kf Y N a=Y a:=by
 refine⟨a.length+1, ?_⟩
 unfold nbv toT
 have e0:Int.toNat (len a)=a.length:=by simp [len]
 simp only[nxe Je hz,ng,aj,e0]
 refine nsP a (npl rf kf Y (a.length+1) a) Y d (fun o r=>bX o 0 (rf r)) ?_ ?_ hr
 ·intro n i out h ho
  show toL rf kf Y a (npl rf kf Y (a.length+1) a n) (i:Int) out=_
  simp only[toL,oU h,nR h,nw4 ho h,sq (show i<out.length by omega),ou h hl,J6,ng,nr,aj]
 ·intro n out ho
  show toL rf kf Y a (npl rf kf Y (a.length+1) a n) (a.length:Int) out=_
  simp only[toL,nQ,aQ]
def eqL {σ:Type} (dec:List DC→σ) {α:Type} (kf:α) (Y:Bool→α) (a b:Rows) (ov:Int→α) (i:Int):α:=
 bif decide (i<len a) then bif Ed (Ed (Ed true (idx i a)) (idx i b)) (same (dec (nth a (Int.toNat i))) (dec (nth b (Int.toNat i)))) then bif !(pd (dec (nth a (Int.toNat i))) (dec (nth b (Int.toNat i)))) then Y false else ov (nL (i+1)) else kf else Y true
def npU {σ:Type} (dec:List DC→σ) {α:Type} (kf:α) (Y:Bool→α) (N:Nat) (a b:Rows) (m_:Nat):Int→α:=
 Nat.rec (motive:=fun _=>Int→α) (fun _=>kf) (fun _ ov=>eqL dec kf Y a b ov) m_
def eqT (kf:α) (Y:Bool→α) (l0:Int→α) (a b:Rows):α:=bif (len a) != (len b) then Y false else l0 0
def nem {σ:Type} (dec:List DC→σ) {α:Type} (kf:α) (Y:Bool→α) (N:Nat) (a b:Rows):α:=eqT kf Y (npU dec kf Y N a b N) a b
theorem nxH {α σ:Type} (dec:List DC→σ) (kf:α) (Y:Bool→α) (a b:Rows) (hl:a.length≤9223372036854775807) (aP:same a b=true):∃N,nem dec kf Y N a b=Y (pd a b):=by
 obtain rfl:=sf aP
 refine⟨a.length+1, ?_⟩
 unfold nem eqT
 simp only[bne_self_eq_false,aQ]
 refine (rQ a (npU dec kf Y (a.length+1) a a) (fun _ _ c=>c) (Y true) ?_ ?_).trans (nsy _ _ _)
 ·intro n i h
  show eqL dec kf Y a a (npU dec kf Y (a.length+1) a a n) (i:Int)=_
  simp only[eqL,oU h,nR h,ou h hl,J6,ng,nr,aj,aQ,pQ,pd,Bool.not_true]
 ·intro n
  show eqL dec kf Y a a (npU dec kf Y (a.length+1) a a n) (a.length:Int)=_
  simp only[eqL,nQ,aQ]
def nvV (Y:Int→α) (a:Rows) (left:Int):α:=
 bif decide (nL (left - (len a))<0) then Y (-1)
 else Y (nL (left - (len a)))
theorem yA (Y:Int→α) (a:Rows) (left:Int):nvV Y a left=Y (oX a left):=by
 exact J9 rfl rfl
def TH (Y:Int→α) (a:nE) (left:Int):α:=
 bif decide (oX a.pV left<0) then Y (-1)
 else Y (oX a.pV left)
def sG (a:nE) (left:Int):Int:=TH id a left
theorem nra (Y:Int→α) (a:nE) (left:Int):TH Y a left=Y (sG a left):=by
 exact J9 rfl rfl
def nmh (Y:nV→α) (a:nV):α:=
 Y a
theorem nmf (Y:nV→α) (a:nV):nmh Y a=Y (n7 a):=by
 rfl
def Z1 (Y:Bool→α) (a b:nz):α:=
 bif a.Kind != b.Kind then Y false
 else bif a.om != b.om then Y false
 else bif a.n9 != b.n9 then Y false
 else bif a.Seq != b.Seq then Y false
 else bif a.Ack != b.Ack then Y false
 else bif a.Flags != b.Flags then Y false
 else bif a.sw != b.sw then Y false
 else bif !(a.Body==b.Body) then Y false
 else Y true
theorem nnC (Y:Bool→α) (a b:nz) (aP:same a b=true):Z1 Y a b=Y (pd a b):=by
 obtain rfl:=sf aP
 simp only[Z1,pQ,pd,bne_self_eq_false,beq_self_eq_true,Bool.not_true,aQ,aj,ng,nr]
def ncY (Y:Bool→α) (a b:nj):α:=
 bif a.sK != b.sK then Y false
 else bif a.sW != b.sW then Y false
 else bif a.rO != b.rO then Y false
 else bif a.Tos != b.Tos then Y false
 else bif a.Id != b.Id then Y false
 else bif a.Ttl != b.Ttl then Y false
 else bif a.o_ != b.o_ then Y false
 else bif a.qm != b.qm then Y false
 else bif Ed true (same a.pG b.pG) then
   bif !(pd a.pG b.pG) then Y false
   else Y true
  else kf
theorem nqK (Y:Bool→α) (a b:nj) (aP:same a b=true):ncY kf Y a b=Y (pd a b):=by
 obtain rfl:=sf aP
 simp only[ncY,pQ,pd,bne_self_eq_false,beq_self_eq_true,Bool.not_true,aQ,aj,ng,nr]
def nfm (Y:Bool→α) (a b:nU):α:=
 bif Ed true (same a.nM b.nM) then
  bif !(pd a.nM b.nM) then Y false
  else bif a.nO != b.nO then Y false
  else bif a.Count != b.Count then Y false
  else Y true
 else kf
theorem ntL (Y:Bool→α) (a b:nU) (aP:same a b=true):nfm kf Y a b=Y (pd a b):=by
 obtain rfl:=sf aP
 simp only[nfm,pQ,pd,bne_self_eq_false,beq_self_eq_true,Bool.not_true,aQ,aj,ng,nr]
def nu8:List DC→List DC:=fun r=>[.int (rI r 0)]
theorem nv3 (Y:Rows→α) (a:Rows) (qA:G5 (.sl [.i]) (.sl a)) (aP:sm a=true):∃N,nbv 8 [.int 0] nu8 kf Y N a=Y (n7 a):=by
 obtain⟨hl,hw⟩:=oG qA
 exact nxv 8 (by omega) [.int 0] nu8 kf Y a hl aP (fun r hr=>(r_ rfl).trans (by exact nAq (hw r hr)))
def OL (Y:nE→α) (a:nE):α:=
 bif Ed true (sm a.pV) then
  Y (⟨a.Mac,a.pI,n7 a.pV⟩:nE)
 else kf
def vd (a:nE):Bool:=OL false (fun _=>true) a
theorem nrq (Y:nE→α) (a:nE) (aP:vd a=true):OL kf Y a=Y (n7 a):=by
 exact sa (fun _=>rfl) aP
def nv6 (Y:n8→α) (a:n8):α:=
 Y a
theorem nv5 (Y:n8→α) (a:n8):nv6 Y a=Y (n7 a):=by
 rfl
def Y4 (Y:nd→α) (a:nd):α:=
 Y a
theorem Y2 (Y:nd→α) (a:nd):Y4 Y a=Y (n7 a):=by
 rfl
def noD (Y:nz→α) (a:nz):α:=
 Y a
theorem noB (Y:nz→α) (a:nz):noD Y a=Y (n7 a):=by
 rfl
def nrw (Y:nj→α) (a:nj):α:=
 Y (⟨a.sK,a.sW,a.rO,a.Tos,a.Id,a.Ttl,a.o_,a.qm,n7 a.pG⟩:nj)
theorem nru (Y:nj→α) (a:nj):nrw Y a=Y (n7 a):=by
 rfl
def nug (Y:nU→α) (a:nU):α:=
 Y (⟨n7 a.nM,a.nO,a.Count⟩:nU)
theorem nue (Y:nU→α) (a:nU):nug Y a=Y (n7 a):=by
 rfl
def noA (Y:nh→α) (a:nh):α:=
 Y (⟨n7 a.Ring,n7 a.Device,n7 a.Driver,n7 a.ql,a.sV,a.vJ⟩:nh)
theorem noy (Y:nh→α) (a:nh):noA Y a=Y (n7 a):=by
 rfl
def nbM:List DC→List DC:=fun r=>nh.enc (n7 (nh.nc r 0))
theorem nml (Y:Rows→α) (a:Rows) (qA:G5 (.sl [.i,.i,.i,.i,.i,.i,.i,.i,.i,.i,.i,.i,.i,.i,.i,.i,.i,.i,.i,.i,.i,.i,.i,.i,.i,.str,.i,.i,.bool,.i]) (.sl a)) (aP:sm a=true):∃N,nbv 248 [.int 0,.int 0,.int 0,.int 0,.int 0,.int 0,.int 0,.int 0,.int 0,.int 0,.int 0,.int 0,.int 0,.int 0,.int 0,.int 0,.int 0,.int 0,.int 0,.int 0,.int 0,.int 0,.int 0,.int 0,.int 0,.str [],.int 0,.int 0,.bool false,.int 0] nbM kf Y N a=Y (n7 a):=by
 obtain⟨hl,hw⟩:=oG qA
 exact nxv 248 (by omega) [.int 0,.int 0,.int 0,.int 0,.int 0,.int 0,.int 0,.int 0,.int 0,.int 0,.int 0,.int 0,.int 0,.int 0,.int 0,.int 0,.int 0,.int 0,.int 0,.int 0,.int 0,.int 0,.int 0,.int 0,.int 0,.str [],.int 0,.int 0,.bool false,.int 0] nbM kf Y a hl aP (fun r hr=>(r_ rfl).trans (by exact nh.eta (hw r hr)))
def yO (Y:Bool→α) (a b:Rows) (ov:Int→α) (i:Int):α:=
 bif decide (i<len a) then
  bif Ed (Ed true (idx i a)) (idx i b) then
   bif !((rS (nth a (Int.toNat i)) 0)==(rS (nth b (Int.toNat i)) 0)) then Y false
   else ov (nL (i+1))
  else kf
 else Y true
def yN (Y:Bool→α) (N:Nat) (a b:Rows) (m_:Nat):Int→α:=
 Nat.rec (motive:=fun _=>Int→α) (fun _=>kf) (fun _ ov=>yO kf Y a b ov) m_
theorem Uh (Y:Bool→α) (N:Nat) (a b:Rows) (m_:Nat):yN kf Y N a b (m_+1)=yO kf Y a b (yN kf Y N a b m_):=rfl
def Rp (kf:α) (Y:Bool→α) (l0:Int→α) (a b:Rows):α:=
 bif (len a) != (len b) then Y false
 else l0 0
def Z7 (Y:Bool→α) (N:Nat) (a b:Rows):α:=Rp kf Y (yN kf Y N a b N) a b
theorem nnH (Y:Bool→α) (a b:Rows) (qA:G5 (.sl [.str]) (.sl a)) (aP:same a b=true):∃N,Z7 kf Y N a b=Y (pd a b):=by
 obtain rfl:=sf aP
 obtain⟨hl,_⟩:=oG qA
 refine⟨a.length+1, ?_⟩
 unfold Z7 Rp
 simp only[bne_self_eq_false,aQ]
 refine (rQ a (yN kf Y (a.length+1) a a) (fun _ _ c=>c) (Y true) ?_ ?_).trans (nsy _ _ _)
 ·intro n i h
  rw[Uh]
  simp only[yO,oU h,nR h,ou h hl,J6,ng,nr,aj,aQ,bne_self_eq_false,beq_self_eq_true,Bool.not_true,pQ,pd]
 ·intro n
  rw[Uh]
  simp only[yO,nQ,aQ]
def ncW (Y:Bool→α) (a b:na):α:=
 bif Ed true (same a.nP b.nP) then
  bif !(pd a.nP b.nP) then Y false
  else Y true
 else kf
theorem nqI (Y:Bool→α) (a b:na) (aP:same a b=true):ncW kf Y a b=Y (pd a b):=by
 obtain rfl:=sf aP
 simp only[ncW,pQ,pd,bne_self_eq_false,beq_self_eq_true,Bool.not_true,aQ,aj,ng,nr]
def nox (Y:oN→α) (a:oN):α:=
 Y a
theorem nou (Y:oN→α) (a:oN):nox Y a=Y (n7 a):=by
 rfl
def nc4 (Y:Bool→α) (a b:nA):α:=
 bif a.zn != b.zn then Y false
 else bif a.PH != b.PH then Y false
 else bif a.Count != b.Count then Y false
 else bif a.Time != b.Time then Y false
 else bif !(a.Rc==b.Rc) then Y false
 else bif !(a.Rd==b.Rd) then Y false
 else Y true
theorem nqU (Y:Bool→α) (a b:nA) (aP:same a b=true):nc4 Y a b=Y (pd a b):=by
 obtain rfl:=sf aP
 simp only[nc4,pQ,pd,bne_self_eq_false,beq_self_eq_true,Bool.not_true,aQ,aj,ng,nr]
def nv0 (Y:nG→α) (a:nG):α:=
 Y a
theorem nvZ (Y:nG→α) (a:nG):nv0 Y a=Y (n7 a):=by
 rfl
def nrF (Y:oh→α) (a:oh):α:=
 Y (⟨n7 a.UY,a.Next,a.Data,a.nAe⟩:oh)
theorem nrD (Y:oh→α) (a:oh):nrF Y a=Y (n7 a):=by
 rfl
def ngR:List DC→List DC:=fun r=>oh.enc (n7 (oh.nc r 0))
theorem noE (Y:Rows→α) (a:Rows) (qA:G5 (.sl [.i,.i,.i,.i,.i,.i,.str,.bool]) (.sl a)) (aP:sm a=true):∃N,nbv 72 [.int 0,.int 0,.int 0,.int 0,.int 0,.int 0,.str [],.bool false] ngR kf Y N a=Y (n7 a):=by
 obtain⟨hl,hw⟩:=oG qA
 exact nxv 72 (by omega) [.int 0,.int 0,.int 0,.int 0,.int 0,.int 0,.str [],.bool false] ngR kf Y a hl aP (fun r hr=>(r_ rfl).trans (by exact oh.eta (hw r hr)))
def TK (Y:Int→α) (a:nB) (left:Int):α:=
 let z0:Int:=nL (left - (len a.Key))
 let z1:Int:=oX a.Table z0
 bif decide (z0<0) then Y (-1)
 else bif decide (z1<0) then Y (-1)
 else Y z1
def wN (a:nB) (left:Int):Int:=TK id a left
theorem nrj (Y:Int→α) (a:nB) (left:Int):TK Y a left=Y (wN a left):=by
 exact J9 rfl (J9 rfl rfl)
def Sz (Y:oZ→α) (a:oZ):α:=
 bif Ed true (sm a.PD) then
  Y (⟨a.uz,a.nC,n7 a.PD⟩:oZ)
 else kf
def um (a:oZ):Bool:=Sz false (fun _=>true) a
theorem nv_ (Y:oZ→α) (a:oZ) (aP:um a=true):Sz kf Y a=Y (n7 a):=by
 exact sa (fun _=>rfl) aP
def OQ (Y:Rows→α) (a:Rows) (ov:Int→Rows→α) (i:Int) (oc:Rows):α:=
 bif decide (i<len a) then
  bif Ed (Ed (Ed (Ed true (idx i a)) (um (oZ.nc (nth a (Int.toNat i)) 0))) (idx i oc)) ((inl (Int.toNat i) oc) && true) then
   ov (nL (i+1)) (List.set oc (Int.toNat i) (bX (nth oc (Int.toNat i)) 0 (oZ.enc (n7 (oZ.nc (nth a (Int.toNat i)) 0)))))
  else kf
 else Y oc
def OP (Y:Rows→α) (N:Nat) (a:Rows) (m_:Nat):Int→Rows→α:=
 Nat.rec (motive:=fun _=>Int→Rows→α) (fun _ _=>kf) (fun _ ov=>OQ kf Y a ov) m_
theorem Yj (Y:Rows→α) (N:Nat) (a:Rows) (m_:Nat):OP kf Y N a (m_+1)=OQ kf Y a (OP kf Y N a m_):=rfl
def Wy (Y:Rows→α) (l0:Int→Rows→α) (a:Rows):α:=
 bif Ed true (xq 40 (len a) (len a)) then
  l0 0 (List.replicate (Int.toNat (len a)) (([.int 0,.int 0,.sl []]):List DC))
 else kf
def nfV (Y:Rows→α) (N:Nat) (a:Rows):α:=Wy kf Y (OP kf Y N a N) a
def tP (a:Rows):Bool:=sm a && a.all fun r=>um (oZ.nc r 0)
theorem nt9 (Y:Rows→α) (a:Rows) (qA:G5 (.sl [.i,.i,.sl [.i]]) (.sl a)) (aP:tP a=true):∃N,nfV kf Y N a=Y (n7 a):=by
 obtain⟨hl,hw⟩:=oG qA
 simp only[tP,aw,List.all_eq_true] at aP
 obtain⟨Je,hel⟩:=aP
 refine⟨a.length+1, ?_⟩
 unfold nfV Wy
 have e0:Int.toNat (len a)=a.length:=by simp [len]
 simp only[nxe Je (show 40≤8388608 by omega),ng,aj,e0]
 refine nsP a (OP kf Y (a.length+1) a) Y [.int 0,.int 0,.sl []] (fun o r=>bX o 0 (oZ.enc (n7 (oZ.nc r 0)))) ?_ ?_ ?_
 ·intro n i out h ho
  have he2:=hel (nth a i) (sr h)
  rw[Yj]
  simp only[OQ,oU h,nR h,nw4 ho h,sq (show i<out.length by omega),ou h hl,J6,Bool.and_true,ng,nr,aj,he2]
  try rfl
 ·intro n out ho
  rw[Yj]
  simp only[OQ,nQ,aQ]
 ·intro r hr
  refine (r_ ?_).trans ?_
  ·rfl
  ·exact oZ.eta (hw r hr)
def ngS:List DC→List DC:=fun r=>[.str (rS r 0)]
theorem noH (Y:Rows→α) (a:Rows) (qA:G5 (.sl [.str]) (.sl a)) (aP:sm a=true):∃N,nbv 16 [.str []] ngS kf Y N a=Y (n7 a):=by
 obtain⟨hl,hw⟩:=oG qA
 exact nxv 16 (by omega) [.str []] ngS kf Y a hl aP (fun r hr=>(r_ rfl).trans (by exact nxk (hw r hr)))
def OM (Y:na→α) (a:na):α:=
 bif Ed true (sm a.nP) then
  Y (⟨n7 a.nP⟩:na)
 else kf
def ve (a:na):Bool:=OM false (fun _=>true) a
theorem nrs (Y:na→α) (a:na) (aP:ve a=true):OM kf Y a=Y (n7 a):=by
 exact sa (fun _=>rfl) aP
def nbL:List DC→List DC:=fun r=>oN.enc (n7 (oN.nc r 0))
theorem nmi (Y:Rows→α) (a:Rows) (qA:G5 (.sl [.i,.i,.i,.bool]) (.sl a)) (aP:sm a=true):∃N,nbv 32 [.int 0,.int 0,.int 0,.bool false] nbL kf Y N a=Y (n7 a):=by
 obtain⟨hl,hw⟩:=oG qA
 exact nxv 32 (by omega) [.int 0,.int 0,.int 0,.bool false] nbL kf Y a hl aP (fun r hr=>(r_ rfl).trans (by exact oN.eta (hw r hr)))
def Sy (Y:nJ→α) (a:nJ):α:=
 bif Ed true (sm a.qs) then
  Y (⟨a.qk,a.nO,a.Count,n7 a.qs⟩:nJ)
 else kf
def tx (a:nJ):Bool:=Sy false (fun _=>true) a
theorem nv4 (Y:nJ→α) (a:nJ) (aP:tx a=true):Sy kf Y a=Y (n7 a):=by
 exact sa (fun _=>rfl) aP
def Nk (Y:nt→α) (a:nt):α:=
 bif Ed true (tx a.oq) then
  bif Ed true (tP a.nK) then
   Y (⟨n7 a.Ring,n7 a.oq,n7 a.nK,a.Next⟩:nt)
  else kf
 else kf
def ux (a:nt):Bool:=Nk false (fun _=>true) a
theorem noI (Y:nt→α) (a:nt) (aP:ux a=true):Nk kf Y a=Y (n7 a):=by
 exact sa (sa (fun _=>rfl)) aP
def OO (Y:Rows→α) (a:Rows) (ov:Int→Rows→α) (i:Int) (oc:Rows):α:=
 bif decide (i<len a) then
  bif Ed (Ed (Ed (Ed true (idx i a)) (tx (nJ.nc (nth a (Int.toNat i)) 0))) (idx i oc)) ((inl (Int.toNat i) oc) && true) then
   ov (nL (i+1)) (List.set oc (Int.toNat i) (bX (nth oc (Int.toNat i)) 0 (nJ.enc (n7 (nJ.nc (nth a (Int.toNat i)) 0)))))
  else kf
 else Y oc
def ON (Y:Rows→α) (N:Nat) (a:Rows) (m_:Nat):Int→Rows→α:=
 Nat.rec (motive:=fun _=>Int→Rows→α) (fun _ _=>kf) (fun _ ov=>OO kf Y a ov) m_
theorem Yf (Y:Rows→α) (N:Nat) (a:Rows) (m_:Nat):ON kf Y N a (m_+1)=OO kf Y a (ON kf Y N a m_):=rfl
def Wv (Y:Rows→α) (l0:Int→Rows→α) (a:Rows):α:=
 bif Ed true (xq 48 (len a) (len a)) then
  l0 0 (List.replicate (Int.toNat (len a)) (([.int 0,.int 0,.int 0,.sl []]):List DC))
 else kf
def nfO (Y:Rows→α) (N:Nat) (a:Rows):α:=Wv kf Y (ON kf Y N a N) a
def uE (a:Rows):Bool:=sm a && a.all fun r=>tx (nJ.nc r 0)
theorem nt3 (Y:Rows→α) (a:Rows) (qA:G5 (.sl [.i,.i,.i,.sl [.i]]) (.sl a)) (aP:uE a=true):∃N,nfO kf Y N a=Y (n7 a):=by
 obtain⟨hl,hw⟩:=oG qA
 simp only[uE,aw,List.all_eq_true] at aP
 obtain⟨Je,hel⟩:=aP
 refine⟨a.length+1, ?_⟩
 unfold nfO Wv
 have e0:Int.toNat (len a)=a.length:=by simp [len]
 simp only[nxe Je (show 48≤8388608 by omega),ng,aj,e0]
 refine nsP a (ON kf Y (a.length+1) a) Y [.int 0,.int 0,.int 0,.sl []] (fun o r=>bX o 0 (nJ.enc (n7 (nJ.nc r 0)))) ?_ ?_ ?_
 ·intro n i out h ho
  have he2:=hel (nth a i) (sr h)
  rw[Yf]
  simp only[OO,oU h,nR h,nw4 ho h,sq (show i<out.length by omega),ou h hl,J6,Bool.and_true,ng,nr,aj,he2]
  try rfl
 ·intro n out ho
  rw[Yf]
  simp only[OO,nQ,aQ]
 ·intro r hr
  refine (r_ ?_).trans ?_
  ·rfl
  ·exact nJ.eta (hw r hr)
def nrI (Y:nA→α) (a:nA):α:=
 Y a
theorem nrG (Y:nA→α) (a:nA):nrI Y a=Y (n7 a):=by
 rfl
def ngT:List DC→List DC:=fun r=>nA.enc (n7 (nA.nc r 0))
theorem noK (Y:Rows→α) (a:Rows) (qA:G5 (.sl [.i,.i,.i,.i,.bool,.bool]) (.sl a)) (aP:sm a=true):∃N,nbv 40 [.int 0,.int 0,.int 0,.int 0,.bool false,.bool false] ngT kf Y N a=Y (n7 a):=by
 obtain⟨hl,hw⟩:=oG qA
 exact nxv 40 (by omega) [.int 0,.int 0,.int 0,.int 0,.bool false,.bool false] ngT kf Y a hl aP (fun r hr=>(r_ rfl).trans (by exact nA.eta (hw r hr)))
def npk:List DC→List DC:=fun r=>[.bool (rB r 0)]
theorem nt0 (Y:Rows→α) (a:Rows) (qA:G5 (.sl [.bool]) (.sl a)) (aP:sm a=true):∃N,nbv 1 [.bool false] npk kf Y N a=Y (n7 a):=by
 obtain⟨hl,hw⟩:=oG qA
 exact nxv 1 (by omega) [.bool false] npk kf Y a hl aP (fun r hr=>(r_ rfl).trans (by exact nz1 (hw r hr)))
def nv9 (Y:oE→α) (a:oE):α:=
 Y a
theorem nv7 (Y:oE→α) (a:oE):nv9 Y a=Y (n7 a):=by
 rfl
def npm:List DC→List DC:=fun r=>oE.enc (n7 (oE.nc r 0))
theorem nt6 (Y:Rows→α) (a:Rows) (qA:G5 (.sl [.i,.i,.i,.i,.i,.i,.i,.i,.i]) (.sl a)) (aP:sm a=true):∃N,nbv 72 [.int 0,.int 0,.int 0,.int 0,.int 0,.int 0,.int 0,.int 0,.int 0] npm kf Y N a=Y (n7 a):=by
 obtain⟨hl,hw⟩:=oG qA
 exact nxv 72 (by omega) [.int 0,.int 0,.int 0,.int 0,.int 0,.int 0,.int 0,.int 0,.int 0] npm kf Y a hl aP (fun r hr=>(r_ rfl).trans (by exact oE.eta (hw r hr)))
def nwd (Y:rD→α) (a:rD):α:=
 Y (⟨a.State,n7 a.UY,a.Queue⟩:rD)
theorem nwb (Y:rD→α) (a:rD):nwd Y a=Y (n7 a):=by
 rfl
def npn:List DC→List DC:=fun r=>rD.enc (n7 (rD.nc r 0))
theorem nub (Y:Rows→α) (a:Rows) (qA:G5 (.sl [.i,.i,.i,.i,.i,.i,.i]) (.sl a)) (aP:sm a=true):∃N,nbv 56 [.int 0,.int 0,.int 0,.int 0,.int 0,.int 0,.int 0] npn kf Y N a=Y (n7 a):=by
 obtain⟨hl,hw⟩:=oG qA
 exact nxv 56 (by omega) [.int 0,.int 0,.int 0,.int 0,.int 0,.int 0,.int 0] npn kf Y a hl aP (fun r hr=>(r_ rfl).trans (by exact rD.eta (hw r hr)))
def xZ (Y:ni→α) (a:ni):α:=
 bif Ed true (sm a.nC) then
  Y (⟨n7 a.nC⟩:ni)
 else kf
def tD (a:ni):Bool:=xZ false (fun _=>true) a
theorem nke (Y:ni→α) (a:ni) (aP:tD a=true):xZ kf Y a=Y (n7 a):=by
 exact sa (fun _=>rfl) aP
def OR (Y:nB→α) (a:nB):α:=
 bif Ed true (sm a.Table) then
  Y (⟨a.Key,n7 a.Table⟩:nB)
 else kf
def vf (a:nB):Bool:=OR false (fun _=>true) a
theorem nrB (Y:nB→α) (a:nB) (aP:vf a=true):OR kf Y a=Y (n7 a):=by
 exact sa (fun _=>rfl) aP
def y8 (Y:nm→α) (a:nm):α:=
 bif Ed true (sm a.ot) then
  bif Ed true (tD a.Table) then
   bif Ed true (vf a.nX) then
    Y (⟨n7 a.ot,n7 a.Table,n7 a.nX⟩:nm)
   else kf
  else kf
 else kf
def tX (a:nm):Bool:=y8 false (fun _=>true) a
theorem nmo (Y:nm→α) (a:nm) (aP:tX a=true):y8 kf Y a=Y (n7 a):=by
 exact sa (sa (sa (fun _=>rfl))) aP
def Sx (Y:ny→α) (a:ny):α:=
 bif Ed true (ve a.ox) then
  bif Ed true (sm a.Maps) then
   bif Ed true (ux a.Tx) then
    bif Ed true (sm a.Rx) then
     bif Ed true (uE a.og) then
      bif Ed true (sm a.nS) then
       bif Ed true (sm a.oQ) then
        bif Ed true (vd a.Filter) then
         bif Ed true (tX a.nv) then
          bif Ed true (sm a.pJ) then
           bif Ed true (sm a.vM) then
            bif Ed true (sm a.oF) then
             bif Ed true (sm a.oY) then
              Y (⟨n7 a.ox,n7 a.Maps,n7 a.Tx,n7 a.Rx,n7 a.og,n7 a.nS,n7 a.oQ,n7 a.Filter,n7 a.nv,n7 a.pJ,a.qe,n7 a.vM,n7 a.oF,n7 a.oY,n7 a.Counters⟩:ny)
             else kf
            else kf
           else kf
          else kf
         else kf
        else kf
       else kf
      else kf
     else kf
    else kf
   else kf
  else kf
 else kf
def tw (a:ny):Bool:=Sx false (fun _=>true) a
theorem nv1 (Y:ny→α) (a:ny) (aP:tw a=true):Sx kf Y a=Y (n7 a):=by
 exact sa (sa (sa (sa (sa (sa (sa (sa (sa (sa (sa (sa (sa (fun _=>rfl))))))))))))) aP
def RL (Y:Int→α) (a:nz) (left:Int):α:=
 let z0:Int:=nL (left - (len a.Body))
 bif decide (z0<0) then Y (-1)
 else Y z0
def uk (a:nz) (left:Int):Int:=RL id a left
theorem noh (Y:Int→α) (a:nz) (left:Int):RL Y a left=Y (uk a left):=by
 exact J9 rfl rfl
def TJ (Y:Int→α) (a:nj) (left:Int):α:=
 bif decide (uk a.pG left<0) then Y (-1)
 else Y (uk a.pG left)
def uV (a:nj) (left:Int):Int:=TJ id a left
theorem nre (Y:Int→α) (a:nj) (left:Int):TJ Y a left=Y (uV a left):=by
 exact J9 rfl rfl
def Wr (Y:Int→α) (a:nU) (left:Int):α:=
 bif decide (uV a.nM left<0) then Y (-1)
 else Y (uV a.nM left)
def wB (a:nU) (left:Int):Int:=Wr id a left
theorem ntY (Y:Int→α) (a:nU) (left:Int):Wr Y a left=Y (wB a left):=by
 exact J9 rfl rfl
def TL (Y:Int→α) (a:oh) (left:Int):α:=
 let z0:Int:=nL (left - (len a.Data))
 bif decide (z0<0) then Y (-1)
 else Y z0
def tl (a:oh) (left:Int):Int:=TL id a left
theorem nrl (Y:Int→α) (a:oh) (left:Int):TL Y a left=Y (tl a left):=by
 exact J9 rfl rfl
def Qu (Y:Bool→α) (a b:Rows) (ov:Int→α) (i:Int):α:=
 bif decide (i<len a) then
  bif Ed (Ed true (idx i a)) (idx i b) then
   bif (rI (nth a (Int.toNat i)) 0) != (rI (nth b (Int.toNat i)) 0) then Y false
   else ov (nL (i+1))
  else kf
 else Y true
def Qt (Y:Bool→α) (N:Nat) (a b:Rows) (m_:Nat):Int→α:=
 Nat.rec (motive:=fun _=>Int→α) (fun _=>kf) (fun _ ov=>Qu kf Y a b ov) m_
theorem ZV (Y:Bool→α) (N:Nat) (a b:Rows) (m_:Nat):Qt kf Y N a b (m_+1)=Qu kf Y a b (Qt kf Y N a b m_):=rfl
def YY (kf:α) (Y:Bool→α) (l0:Int→α) (a b:Rows):α:=
 bif (len a) != (len b) then Y false
 else l0 0
def niv (Y:Bool→α) (N:Nat) (a b:Rows):α:=YY kf Y (Qt kf Y N a b N) a b
theorem nvK (Y:Bool→α) (a b:Rows) (qA:G5 (.sl [.i]) (.sl a)) (aP:same a b=true):∃N,niv kf Y N a b=Y (pd a b):=by
 obtain rfl:=sf aP
 obtain⟨hl,_⟩:=oG qA
 refine⟨a.length+1, ?_⟩
 unfold niv YY
 simp only[bne_self_eq_false,aQ]
 refine (rQ a (Qt kf Y (a.length+1) a a) (fun _ _ c=>c) (Y true) ?_ ?_).trans (nsy _ _ _)
 ·intro n i h
  rw[ZV]
  simp only[Qu,oU h,nR h,ou h hl,J6,ng,nr,aj,aQ,bne_self_eq_false,beq_self_eq_true,Bool.not_true,pQ,pd]
 ·intro n
  rw[ZV]
  simp only[Qu,nQ,aQ]
def Sv (Y:Int→α) (a:nJ) (left:Int):α:=
 bif decide (oX a.qs left<0) then Y (-1)
 else Y (oX a.qs left)
def rM (a:nJ) (left:Int):Int:=Sv id a left
theorem nvW (Y:Int→α) (a:nJ) (left:Int):Sv Y a left=Y (rM a left):=by
 exact J9 rfl rfl
def Ph (Y:Int→α) (a:ni) (left:Int):α:=
 bif decide (oX a.nC left<0) then Y (-1)
 else Y (oX a.nC left)
def te (a:ni) (left:Int):Int:=Ph id a left
theorem nj_ (Y:Int→α) (a:ni) (left:Int):Ph Y a left=Y (te a left):=by
 exact J9 rfl rfl
def y5 (Y:Int→α) (a:Rows) (ov:Int→Int→α) (uR i:Int):α:=
 let z0:Int:=tl (oh.nc (nth a (Int.toNat i)) 0) uR
 bif decide (i<len a) then
  bif Ed true (idx i a) then
   bif decide (z0<0) then Y (-1)
   else ov z0 (nL (i+1))
  else kf
 else Y uR
def y4 (Y:Int→α) (N:Nat) (a:Rows) (m_:Nat):Int→Int→α:=
 Nat.rec (motive:=fun _=>Int→Int→α) (fun _ _=>kf) (fun _ ov=>y5 kf Y a ov) m_
theorem UA (Y:Int→α) (N:Nat) (a:Rows) (m_:Nat):y4 kf Y N a (m_+1)=y5 kf Y a (y4 kf Y N a m_):=rfl
def RN (kf:α) (Y:Int→α) (l0:Int→Int→α) (a:Rows) (left:Int):α:=
 bif decide (nL (left - (len a))<0) then Y (-1)
 else l0 (nL (left - (len a))) 0
def naP (Y:Int→α) (N:Nat) (a:Rows) (left:Int):α:=RN kf Y (y4 kf Y N a N) a left
def sT (a:Rows) (left:Int):Int:=YF (fun r l=>tl (oh.nc r 0) l) a left
theorem nok (Y:Int→α) (a:Rows) (left:Int) (qA:G5 (.sl [.i,.i,.i,.i,.i,.i,.str,.bool]) (.sl a)):∃N,naP kf Y N a left=Y (sT a left):=by
 obtain⟨hl,_⟩:=oG qA
 refine⟨a.length+1, ?_⟩
 unfold naP RN sT YF
 refine J9 rfl ?_
 refine (UU a (fun n i l=>y4 kf Y (a.length+1) a n l i) (fun _ r c l=>bif decide ((fun r l=>tl (oh.nc r 0) l) r l<0) then Y (-1) else c ((fun r l=>tl (oh.nc r 0) l) r l)) Y ?_ ?_ _).trans (nwD (fun r l=>tl (oh.nc r 0) l) Y a 0 _)
 ·intro n i l h
  try dsimp only
  rw[UA]
  simp only[y5,oU h,nR h,ou h hl,J6,ng,nr,aj]
 ·intro n l
  try dsimp only
  rw[UA]
  simp only[y5,nQ,aQ]
theorem nnK (Y:Bool→α) (a b:Rows) (qA:G5 (.sl [.i,.i,.i,.i,.bool,.bool]) (.sl a)) (aP:same a b=true):∃N,nem (fun r=>nA.nc r 0) kf Y N a b=Y (pd a b):=by
 exact nxH (fun r=>nA.nc r 0) kf Y a b (oG qA).1 aP
def Sw (Y:Int→α) (a:oZ) (left:Int):α:=
 bif decide (oX a.PD left<0) then Y (-1)
 else Y (oX a.PD left)
def sB (a:oZ) (left:Int):Int:=Sw id a left
theorem nvX (Y:Int→α) (a:oZ) (left:Int):Sw Y a left=Y (sB a left):=by
 exact J9 rfl rfl
def OK (Y:Int→α) (a:Rows) (ov:Int→Int→α) (uR i:Int):α:=
 let z0:Int:=sB (oZ.nc (nth a (Int.toNat i)) 0) uR
 bif decide (i<len a) then
  bif Ed true (idx i a) then
   bif decide (z0<0) then Y (-1)
   else ov z0 (nL (i+1))
  else kf
 else Y uR
def OJ (Y:Int→α) (N:Nat) (a:Rows) (m_:Nat):Int→Int→α:=
 Nat.rec (motive:=fun _=>Int→Int→α) (fun _ _=>kf) (fun _ ov=>OK kf Y a ov) m_
theorem X9 (Y:Int→α) (N:Nat) (a:Rows) (m_:Nat):OJ kf Y N a (m_+1)=OK kf Y a (OJ kf Y N a m_):=rfl
def Wq (kf:α) (Y:Int→α) (l0:Int→Int→α) (a:Rows) (left:Int):α:=
 bif decide (nL (left - (len a))<0) then Y (-1)
 else l0 (nL (left - (len a))) 0
def nfG (Y:Int→α) (N:Nat) (a:Rows) (left:Int):α:=Wq kf Y (OJ kf Y N a N) a left
def t9 (a:Rows) (left:Int):Int:=YF (fun r l=>sB (oZ.nc r 0) l) a left
theorem ntT (Y:Int→α) (a:Rows) (left:Int) (qA:G5 (.sl [.i,.i,.sl [.i]]) (.sl a)):∃N,nfG kf Y N a left=Y (t9 a left):=by
 obtain⟨hl,_⟩:=oG qA
 refine⟨a.length+1, ?_⟩
 unfold nfG Wq t9 YF
 refine J9 rfl ?_
 refine (UU a (fun n i l=>OJ kf Y (a.length+1) a n l i) (fun _ r c l=>bif decide ((fun r l=>sB (oZ.nc r 0) l) r l<0) then Y (-1) else c ((fun r l=>sB (oZ.nc r 0) l) r l)) Y ?_ ?_ _).trans (nwD (fun r l=>sB (oZ.nc r 0) l) Y a 0 _)
 ·intro n i l h
  try dsimp only
  rw[X9]
  simp only[OK,oU h,nR h,ou h hl,J6,ng,nr,aj]
 ·intro n l
  try dsimp only
  rw[X9]
  simp only[OK,nQ,aQ]
def y7 (Y:Int→α) (a:Rows) (ov:Int→Int→α) (uR i:Int):α:=
 let z0:Int:=nL (uR - (len (rS (nth a (Int.toNat i)) 0)))
 bif decide (i<len a) then
  bif Ed true (idx i a) then
   bif decide (z0<0) then Y (-1)
   else ov z0 (nL (i+1))
  else kf
 else Y uR
def y6 (Y:Int→α) (N:Nat) (a:Rows) (m_:Nat):Int→Int→α:=
 Nat.rec (motive:=fun _=>Int→Int→α) (fun _ _=>kf) (fun _ ov=>y7 kf Y a ov) m_
theorem UB (Y:Int→α) (N:Nat) (a:Rows) (m_:Nat):y6 kf Y N a (m_+1)=y7 kf Y a (y6 kf Y N a m_):=rfl
def RO (kf:α) (Y:Int→α) (l0:Int→Int→α) (a:Rows) (left:Int):α:=
 bif decide (nL (left - (len a))<0) then Y (-1)
 else l0 (nL (left - (len a))) 0
def naS (Y:Int→α) (N:Nat) (a:Rows) (left:Int):α:=RO kf Y (y6 kf Y N a N) a left
def rX (a:Rows) (left:Int):Int:=YF (fun r l=>nL (l - len (rS r 0))) a left
theorem nop (Y:Int→α) (a:Rows) (left:Int) (qA:G5 (.sl [.str]) (.sl a)):∃N,naS kf Y N a left=Y (rX a left):=by
 obtain⟨hl,_⟩:=oG qA
 refine⟨a.length+1, ?_⟩
 unfold naS RO rX YF
 refine J9 rfl ?_
 refine (UU a (fun n i l=>y6 kf Y (a.length+1) a n l i) (fun _ r c l=>bif decide ((fun r l=>nL (l - len (rS r 0))) r l<0) then Y (-1) else c ((fun r l=>nL (l - len (rS r 0))) r l)) Y ?_ ?_ _).trans (nwD (fun r l=>nL (l - len (rS r 0))) Y a 0 _)
 ·intro n i l h
  try dsimp only
  rw[UB]
  simp only[y7,oU h,nR h,ou h hl,J6,ng,nr,aj]
 ·intro n l
  try dsimp only
  rw[UB]
  simp only[y7,nQ,aQ]
def TI (Y:Int→α) (a:na) (left:Int):α:=
 bif decide (rX a.nP left<0) then Y (-1)
 else Y (rX a.nP left)
def pc (a:na) (left:Int):Int:=TI id a left
theorem nrc (Y:Int→α) (a:na) (left:Int):TI Y a left=Y (pc a left):=by
 exact J9 rfl rfl
def Ni (Y:Int→α) (a:nt) (left:Int):α:=
 let z0:Int:=t9 a.nK (rM a.oq left)
 bif decide (rM a.oq left<0) then Y (-1)
 else bif decide (z0<0) then Y (-1)
 else Y z0
def pF (a:nt) (left:Int):Int:=Ni id a left
theorem noq (Y:Int→α) (a:nt) (left:Int):Ni Y a left=Y (pF a left):=by
 exact J9 rfl (J9 rfl rfl)
def RJ (Y:Int→α) (a:nh) (left:Int):α:=
 bif decide (wB a.ql left<0) then Y (-1)
 else Y (wB a.ql left)
def sR (a:nh) (left:Int):Int:=RJ id a left
theorem nof (Y:Int→α) (a:nh) (left:Int):RJ Y a left=Y (sR a left):=by
 exact J9 rfl rfl
def xY (Y:Int→α) (a:Rows) (ov:Int→Int→α) (uR i:Int):α:=
 let z0:Int:=sR (nh.nc (nth a (Int.toNat i)) 0) uR
 bif decide (i<len a) then
  bif Ed true (idx i a) then
   bif decide (z0<0) then Y (-1)
   else ov z0 (nL (i+1))
  else kf
 else Y uR
def xX (Y:Int→α) (N:Nat) (a:Rows) (m_:Nat):Int→Int→α:=
 Nat.rec (motive:=fun _=>Int→Int→α) (fun _ _=>kf) (fun _ ov=>xY kf Y a ov) m_
theorem S1 (Y:Int→α) (N:Nat) (a:Rows) (m_:Nat):xX kf Y N a (m_+1)=xY kf Y a (xX kf Y N a m_):=rfl
def Qy (kf:α) (Y:Int→α) (l0:Int→Int→α) (a:Rows) (left:Int):α:=
 bif decide (nL (left - (len a))<0) then Y (-1)
 else l0 (nL (left - (len a))) 0
def X8 (Y:Int→α) (N:Nat) (a:Rows) (left:Int):α:=Qy kf Y (xX kf Y N a N) a left
def qf (a:Rows) (left:Int):Int:=YF (fun r l=>sR (nh.nc r 0) l) a left
theorem nl5 (Y:Int→α) (a:Rows) (left:Int) (qA:G5 (.sl [.i,.i,.i,.i,.i,.i,.i,.i,.i,.i,.i,.i,.i,.i,.i,.i,.i,.i,.i,.i,.i,.i,.i,.i,.i,.str,.i,.i,.bool,.i]) (.sl a)):∃N,X8 kf Y N a left=Y (qf a left):=by
 obtain⟨hl,_⟩:=oG qA
 refine⟨a.length+1, ?_⟩
 unfold X8 Qy qf YF
 refine J9 rfl ?_
 refine (UU a (fun n i l=>xX kf Y (a.length+1) a n l i) (fun _ r c l=>bif decide ((fun r l=>sR (nh.nc r 0) l) r l<0) then Y (-1) else c ((fun r l=>sR (nh.nc r 0) l) r l)) Y ?_ ?_ _).trans (nwD (fun r l=>sR (nh.nc r 0) l) Y a 0 _)
 ·intro n i l h
  try dsimp only
  rw[S1]
  simp only[xY,oU h,nR h,ou h hl,J6,ng,nr,aj]
 ·intro n l
  try dsimp only
  rw[S1]
  simp only[xY,nQ,aQ]
def OI (Y:Int→α) (a:Rows) (ov:Int→Int→α) (uR i:Int):α:=
 let z0:Int:=rM (nJ.nc (nth a (Int.toNat i)) 0) uR
 bif decide (i<len a) then
  bif Ed true (idx i a) then
   bif decide (z0<0) then Y (-1)
   else ov z0 (nL (i+1))
  else kf
 else Y uR
def OH (Y:Int→α) (N:Nat) (a:Rows) (m_:Nat):Int→Int→α:=
 Nat.rec (motive:=fun _=>Int→Int→α) (fun _ _=>kf) (fun _ ov=>OI kf Y a ov) m_
theorem X4 (Y:Int→α) (N:Nat) (a:Rows) (m_:Nat):OH kf Y N a (m_+1)=OI kf Y a (OH kf Y N a m_):=rfl
def Wn (kf:α) (Y:Int→α) (l0:Int→Int→α) (a:Rows) (left:Int):α:=
 bif decide (nL (left - (len a))<0) then Y (-1)
 else l0 (nL (left - (len a))) 0
def nfB (Y:Int→α) (N:Nat) (a:Rows) (left:Int):α:=Wn kf Y (OH kf Y N a N) a left
def rP (a:Rows) (left:Int):Int:=YF (fun r l=>rM (nJ.nc r 0) l) a left
theorem ntP (Y:Int→α) (a:Rows) (left:Int) (qA:G5 (.sl [.i,.i,.i,.sl [.i]]) (.sl a)):∃N,nfB kf Y N a left=Y (rP a left):=by
 obtain⟨hl,_⟩:=oG qA
 refine⟨a.length+1, ?_⟩
 unfold nfB Wn rP YF
 refine J9 rfl ?_
 refine (UU a (fun n i l=>OH kf Y (a.length+1) a n l i) (fun _ r c l=>bif decide ((fun r l=>rM (nJ.nc r 0) l) r l<0) then Y (-1) else c ((fun r l=>rM (nJ.nc r 0) l) r l)) Y ?_ ?_ _).trans (nwD (fun r l=>rM (nJ.nc r 0) l) Y a 0 _)
 ·intro n i l h
  try dsimp only
  rw[X4]
  simp only[OI,oU h,nR h,ou h hl,J6,ng,nr,aj]
 ·intro n l
  try dsimp only
  rw[X4]
  simp only[OI,nQ,aQ]
def Qz (Y:Int→α) (a:nm) (left:Int):α:=
 let z0:Int:=te a.Table (oX a.ot left)
 let z1:Int:=wN a.nX z0
 bif decide (oX a.ot left<0) then Y (-1)
 else bif decide (z0<0) then Y (-1)
 else bif decide (z1<0) then Y (-1)
 else Y z1
def rW (a:nm) (left:Int):Int:=Qz id a left
theorem nl_ (Y:Int→α) (a:nm) (left:Int):Qz Y a left=Y (rW a left):=by
 exact J9 rfl (J9 rfl (J9 rfl rfl))
def Su (Y:Int→α) (a:ny) (left:Int):α:=
 let z0:Int:=oX a.Maps (pc a.ox left)
 let z1:Int:=pF a.Tx z0
 let z2:Int:=qf a.Rx z1
 let z3:Int:=rP a.og z2
 let z4:Int:=oX a.nS z3
 let z5:Int:=oX a.oQ z4
 let z6:Int:=sG a.Filter z5
 let z7:Int:=rW a.nv z6
 let z8:Int:=sT a.pJ z7
 let z9:Int:=rX a.vM z8
 let z10:Int:=oX a.oF z9
 let z11:Int:=oX a.oY z10
 bif decide (pc a.ox left<0) then Y (-1)
 else bif decide (z0<0) then Y (-1)
 else bif decide (z1<0) then Y (-1)
 else bif decide (z2<0) then Y (-1)
 else bif decide (z3<0) then Y (-1)
 else bif decide (z4<0) then Y (-1)
 else bif decide (z5<0) then Y (-1)
 else bif decide (z6<0) then Y (-1)
 else bif decide (z7<0) then Y (-1)
 else bif decide (z8<0) then Y (-1)
 else bif decide (z9<0) then Y (-1)
 else bif decide (z10<0) then Y (-1)
 else bif decide (z11<0) then Y (-1)
 else Y z11
def wA (a:ny) (left:Int):Int:=Su id a left
theorem nvT (Y:Int→α) (a:ny) (left:Int):Su Y a left=Y (wA a left):=by
 exact J9 rfl (J9 rfl (J9 rfl (J9 rfl (J9 rfl (J9 rfl (J9 rfl (J9 rfl (J9 rfl (J9 rfl (J9 rfl (J9 rfl (J9 rfl rfl))))))))))))
def niq (Y:Bool→α) (a b:nG):α:=
 bif a.Kind != b.Kind then Y false
 else bif a.o_ != b.o_ then Y false
 else bif a.qm != b.qm then Y false
 else bif a.om != b.om then Y false
 else bif a.n9 != b.n9 then Y false
 else Y true
theorem nvH (Y:Bool→α) (a b:nG) (aP:same a b=true):niq Y a b=Y (pd a b):=by
 obtain rfl:=sf aP
 simp only[niq,pQ,pd,bne_self_eq_false,beq_self_eq_true,Bool.not_true,aQ,aj,ng,nr]
def ZX (Y:Bool→α) (a b:oN):α:=
 bif a.nyi != b.nyi then Y false
 else bif a.nwW != b.nwW then Y false
 else bif a.nsG != b.nsG then Y false
 else bif !(a.nsJ==b.nsJ) then Y false
 else Y true
theorem nny (Y:Bool→α) (a b:oN) (aP:same a b=true):ZX Y a b=Y (pd a b):=by
 obtain rfl:=sf aP
 simp only[ZX,pQ,pd,bne_self_eq_false,beq_self_eq_true,Bool.not_true,aQ,aj,ng,nr]
def niB (Y:Bool→α) (a b:oE):α:=
 bif a.Priority != b.Priority then Y false
 else bif a.Kind != b.Kind then Y false
 else bif a.o_ != b.o_ then Y false
 else bif a.vK != b.vK then Y false
 else bif a.yw != b.yw then Y false
 else bif a.NP != b.NP then Y false
 else bif a.rO != b.rO then Y false
 else bif a.Action != b.Action then Y false
 else bif a.Queue != b.Queue then Y false
 else Y true
theorem nvN (Y:Bool→α) (a b:oE) (aP:same a b=true):niB Y a b=Y (pd a b):=by
 obtain rfl:=sf aP
 simp only[niB,pQ,pd,bne_self_eq_false,beq_self_eq_true,Bool.not_true,aQ,aj,ng,nr]
theorem ntC (Y:Bool→α) (a b:Rows) (qA:G5 (.sl [.i,.i,.i,.i,.i,.i,.i,.i,.i]) (.sl a)) (aP:same a b=true):∃N,nem (fun r=>oE.nc r 0) kf Y N a b=Y (pd a b):=by
 exact nxH (fun r=>oE.nc r 0) kf Y a b (oG qA).1 aP
def niF (Y:Bool→α) (a b:rD):α:=
 bif a.State != b.State then Y false
 else bif Ed true (same a.UY b.UY) then
   bif !(pd a.UY b.UY) then Y false
   else bif a.Queue != b.Queue then Y false
   else Y true
  else kf
theorem nvR (Y:Bool→α) (a b:rD) (aP:same a b=true):niF kf Y a b=Y (pd a b):=by
 obtain rfl:=sf aP
 simp only[niF,pQ,pd,bne_self_eq_false,beq_self_eq_true,Bool.not_true,aQ,aj,ng,nr]
theorem ntI (Y:Bool→α) (a b:Rows) (qA:G5 (.sl [.i,.i,.i,.i,.i,.i,.i]) (.sl a)) (aP:same a b=true):∃N,nem (fun r=>rD.nc r 0) kf Y N a b=Y (pd a b):=by
 exact nxH (fun r=>rD.nc r 0) kf Y a b (oG qA).1 aP
def VS (Y:Bool→α) (a b:ni):α:=
 bif Ed true (same a.nC b.nC) then
  bif !(pd a.nC b.nC) then Y false
  else Y true
 else kf
theorem njM (Y:Bool→α) (a b:ni) (aP:same a b=true):VS kf Y a b=Y (pd a b):=by
 obtain rfl:=sf aP
 simp only[VS,pQ,pd,bne_self_eq_false,beq_self_eq_true,Bool.not_true,aQ,aj,ng,nr]
def nc0 (Y:Bool→α) (a b:nB):α:=
 bif !(a.Key==b.Key) then Y false
 else bif Ed true (same a.Table b.Table) then
   bif !(pd a.Table b.Table) then Y false
   else Y true
  else kf
theorem nqQ (Y:Bool→α) (a b:nB) (aP:same a b=true):nc0 kf Y a b=Y (pd a b):=by
 obtain rfl:=sf aP
 simp only[nc0,pQ,pd,bne_self_eq_false,beq_self_eq_true,Bool.not_true,aQ,aj,ng,nr]
def XW (Y:Bool→α) (a b:nm):α:=
 bif Ed true (same a.ot b.ot) then
  bif !(pd a.ot b.ot) then Y false
  else bif Ed true (same a.Table b.Table) then
    bif !(pd a.Table b.Table) then Y false
    else bif Ed true (same a.nX b.nX) then
      bif !(pd a.nX b.nX) then Y false
      else Y true
     else kf
   else kf
 else kf
theorem nlx (Y:Bool→α) (a b:nm) (aP:same a b=true):XW kf Y a b=Y (pd a b):=by
 obtain rfl:=sf aP
 simp only[XW,pQ,pd,bne_self_eq_false,beq_self_eq_true,Bool.not_true,aQ,aj,ng,nr]
def nc2 (Y:Bool→α) (a b:oh):α:=
 bif Ed true (same a.UY b.UY) then
  bif !(pd a.UY b.UY) then Y false
  else bif a.Next != b.Next then Y false
  else bif !(a.Data==b.Data) then Y false
  else bif !(a.nAe==b.nAe) then Y false
  else Y true
 else kf
theorem nqS (Y:Bool→α) (a b:oh) (aP:same a b=true):nc2 kf Y a b=Y (pd a b):=by
 obtain rfl:=sf aP
 simp only[nc2,pQ,pd,bne_self_eq_false,beq_self_eq_true,Bool.not_true,aQ,aj,ng,nr]
theorem nnE (Y:Bool→α) (a b:Rows) (qA:G5 (.sl [.i,.i,.i,.i,.i,.i,.str,.bool]) (.sl a)) (aP:same a b=true):∃N,nem (fun r=>oh.nc r 0) kf Y N a b=Y (pd a b):=by
 exact nxH (fun r=>oh.nc r 0) kf Y a b (oG qA).1 aP
def nix (Y:Bool→α) (a b:nJ):α:=
 bif a.qk != b.qk then Y false
 else bif a.nO != b.nO then Y false
 else bif a.Count != b.Count then Y false
 else bif Ed true (same a.qs b.qs) then
   bif !(pd a.qs b.qs) then Y false
   else Y true
  else kf
theorem nvL (Y:Bool→α) (a b:nJ) (aP:same a b=true):nix kf Y a b=Y (pd a b):=by
 obtain rfl:=sf aP
 simp only[nix,pQ,pd,bne_self_eq_false,beq_self_eq_true,Bool.not_true,aQ,aj,ng,nr]
def niz (Y:Bool→α) (a b:n8):α:=
 bif a.qk != b.qk then Y false
 else bif a.nO != b.nO then Y false
 else bif a.Head != b.Head then Y false
 else bif a.wI != b.wI then Y false
 else Y true
theorem nvM (Y:Bool→α) (a b:n8) (aP:same a b=true):niz Y a b=Y (pd a b):=by
 obtain rfl:=sf aP
 simp only[niz,pQ,pd,bne_self_eq_false,beq_self_eq_true,Bool.not_true,aQ,aj,ng,nr]
def niD (Y:Bool→α) (a b:oZ):α:=
 bif a.uz != b.uz then Y false
 else bif a.nC != b.nC then Y false
 else bif Ed true (same a.PD b.PD) then
   bif !(pd a.PD b.PD) then Y false
   else Y true
  else kf
theorem nvP (Y:Bool→α) (a b:oZ) (aP:same a b=true):niD kf Y a b=Y (pd a b):=by
 obtain rfl:=sf aP
 simp only[niD,pQ,pd,bne_self_eq_false,beq_self_eq_true,Bool.not_true,aQ,aj,ng,nr]
theorem ntF (Y:Bool→α) (a b:Rows) (qA:G5 (.sl [.i,.i,.sl [.i]]) (.sl a)) (aP:same a b=true):∃N,nem (fun r=>oZ.nc r 0) kf Y N a b=Y (pd a b):=by
 exact nxH (fun r=>oZ.nc r 0) kf Y a b (oG qA).1 aP
def Z_ (Y:Bool→α) (a b:nt):α:=
 bif Ed true (same a.Ring b.Ring) then
  bif !(pd a.Ring b.Ring) then Y false
  else bif Ed true (same a.oq b.oq) then
    bif !(pd a.oq b.oq) then Y false
    else bif Ed true (same a.nK b.nK) then
      bif !(pd a.nK b.nK) then Y false
      else bif a.Next != b.Next then Y false
      else Y true
     else kf
   else kf
 else kf
theorem nnI (Y:Bool→α) (a b:nt) (aP:same a b=true):Z_ kf Y a b=Y (pd a b):=by
 obtain rfl:=sf aP
 simp only[Z_,pQ,pd,bne_self_eq_false,beq_self_eq_true,Bool.not_true,aQ,aj,ng,nr]
theorem nlr (Y:Bool→α) (a b:Rows) (qA:G5 (.sl [.i,.i,.i,.bool]) (.sl a)) (aP:same a b=true):∃N,nem (fun r=>oN.nc r 0) kf Y N a b=Y (pd a b):=by
 exact nxH (fun r=>oN.nc r 0) kf Y a b (oG qA).1 aP
def N5 (Y:Bool→α) (a b:nd):α:=
 bif a.qk != b.qk then Y false
 else bif a.nO != b.nO then Y false
 else bif a.Count != b.Count then Y false
 else Y true
theorem YV (Y:Bool→α) (a b:nd) (aP:same a b=true):N5 Y a b=Y (pd a b):=by
 obtain rfl:=sf aP
 simp only[N5,pQ,pd,bne_self_eq_false,beq_self_eq_true,Bool.not_true,aQ,aj,ng,nr]
def ZZ (Y:Bool→α) (a b:nh):α:=
 bif Ed true (same a.Ring b.Ring) then
  bif !(pd a.Ring b.Ring) then Y false
  else bif Ed true (same a.Device b.Device) then
    bif !(pd a.Device b.Device) then Y false
    else bif Ed true (same a.Driver b.Driver) then
      bif !(pd a.Driver b.Driver) then Y false
      else bif Ed true (same a.ql b.ql) then
        bif !(pd a.ql b.ql) then Y false
        else bif !(a.sV==b.sV) then Y false
        else bif a.vJ != b.vJ then Y false
        else Y true
       else kf
     else kf
   else kf
 else kf
theorem nnA (Y:Bool→α) (a b:nh) (aP:same a b=true):ZZ kf Y a b=Y (pd a b):=by
 obtain rfl:=sf aP
 simp only[ZZ,pQ,pd,bne_self_eq_false,beq_self_eq_true,Bool.not_true,aQ,aj,ng,nr]
theorem nlu (Y:Bool→α) (a b:Rows) (qA:G5 (.sl [.i,.i,.i,.i,.i,.i,.i,.i,.i,.i,.i,.i,.i,.i,.i,.i,.i,.i,.i,.i,.i,.i,.i,.i,.i,.str,.i,.i,.bool,.i]) (.sl a)) (aP:same a b=true):∃N,nem (fun r=>nh.nc r 0) kf Y N a b=Y (pd a b):=by
 exact nxH (fun r=>nh.nc r 0) kf Y a b (oG qA).1 aP
theorem ntz (Y:Bool→α) (a b:Rows) (qA:G5 (.sl [.i,.i,.i,.sl [.i]]) (.sl a)) (aP:same a b=true):∃N,nem (fun r=>nJ.nc r 0) kf Y N a b=Y (pd a b):=by
 exact nxH (fun r=>nJ.nc r 0) kf Y a b (oG qA).1 aP
def OG (Y:Bool→α) (a b:Rows) (ov:Int→α) (i:Int):α:=
 bif decide (i<len a) then
  bif Ed (Ed true (idx i a)) (idx i b) then
   bif !((rB (nth a (Int.toNat i)) 0)==(rB (nth b (Int.toNat i)) 0)) then Y false
   else ov (nL (i+1))
  else kf
 else Y true
def OE (Y:Bool→α) (N:Nat) (a b:Rows) (m_:Nat):Int→α:=
 Nat.rec (motive:=fun _=>Int→α) (fun _=>kf) (fun _ ov=>OG kf Y a b ov) m_
theorem XM (Y:Bool→α) (N:Nat) (a b:Rows) (m_:Nat):OE kf Y N a b (m_+1)=OG kf Y a b (OE kf Y N a b m_):=rfl
def VQ (kf:α) (Y:Bool→α) (l0:Int→α) (a b:Rows):α:=
 bif (len a) != (len b) then Y false
 else l0 0
def ne9 (Y:Bool→α) (N:Nat) (a b:Rows):α:=VQ kf Y (OE kf Y N a b N) a b
theorem ntw (Y:Bool→α) (a b:Rows) (qA:G5 (.sl [.bool]) (.sl a)) (aP:same a b=true):∃N,ne9 kf Y N a b=Y (pd a b):=by
 obtain rfl:=sf aP
 obtain⟨hl,_⟩:=oG qA
 refine⟨a.length+1, ?_⟩
 unfold ne9 VQ
 simp only[bne_self_eq_false,aQ]
 refine (rQ a (OE kf Y (a.length+1) a a) (fun _ _ c=>c) (Y true) ?_ ?_).trans (nsy _ _ _)
 ·intro n i h
  rw[XM]
  simp only[OG,oU h,nR h,ou h hl,J6,ng,nr,aj,aQ,bne_self_eq_false,beq_self_eq_true,Bool.not_true,pQ,pd]
 ·intro n
  rw[XM]
  simp only[OG,nQ,aQ]
def ncU (Y:Bool→α) (a b:nE):α:=
 bif a.Mac != b.Mac then Y false
 else bif !(a.pI==b.pI) then Y false
 else bif Ed true (same a.pV b.pV) then
   bif !(pd a.pV b.pV) then Y false
   else Y true
  else kf
theorem nqG (Y:Bool→α) (a b:nE) (aP:same a b=true):ncU kf Y a b=Y (pd a b):=by
 obtain rfl:=sf aP
 simp only[ncU,pQ,pd,bne_self_eq_false,beq_self_eq_true,Bool.not_true,aQ,aj,ng,nr]
def XO (Y:Bool→α) (a b:nV):α:=
 bif a.Frames != b.Frames then Y false
 else bif a.Bad != b.Bad then Y false
 else bif a.qj != b.qj then Y false
 else bif a.qQ != b.qQ then Y false
 else bif a.uf != b.uf then Y false
 else Y true
theorem nlp (Y:Bool→α) (a b:nV) (aP:same a b=true):XO Y a b=Y (pd a b):=by
 obtain rfl:=sf aP
 simp only[XO,pQ,pd,bne_self_eq_false,beq_self_eq_true,Bool.not_true,aQ,aj,ng,nr]
def nis (Y:Bool→α) (a b:ny):α:=
 bif Ed true (same a.ox b.ox) then
  bif !(pd a.ox b.ox) then Y false
  else bif Ed true (same a.Maps b.Maps) then
    bif !(pd a.Maps b.Maps) then Y false
    else bif Ed true (same a.Tx b.Tx) then
      bif !(pd a.Tx b.Tx) then Y false
      else bif Ed true (same a.Rx b.Rx) then
        bif !(pd a.Rx b.Rx) then Y false
        else bif Ed true (same a.og b.og) then
          bif !(pd a.og b.og) then Y false
          else bif Ed true (same a.nS b.nS) then
            bif !(pd a.nS b.nS) then Y false
            else bif Ed true (same a.oQ b.oQ) then
              bif !(pd a.oQ b.oQ) then Y false
              else bif Ed true (same a.Filter b.Filter) then
                bif !(pd a.Filter b.Filter) then Y false
                else bif Ed true (same a.nv b.nv) then
                  bif !(pd a.nv b.nv) then Y false
                  else bif Ed true (same a.pJ b.pJ) then
                    bif !(pd a.pJ b.pJ) then Y false
                    else bif !(a.qe==b.qe) then Y false
                    else bif Ed true (same a.vM b.vM) then
                      bif !(pd a.vM b.vM) then Y false
                      else bif Ed true (same a.oF b.oF) then
                        bif !(pd a.oF b.oF) then Y false
                        else bif Ed true (same a.oY b.oY) then
                          bif !(pd a.oY b.oY) then Y false
                          else bif Ed true (same a.Counters b.Counters) then
                            bif !(pd a.Counters b.Counters) then Y false
                            else Y true
                           else kf
                         else kf
                       else kf
                     else kf
                   else kf
                 else kf
               else kf
             else kf
           else kf
         else kf
       else kf
     else kf
   else kf
 else kf
theorem nvI (Y:Bool→α) (a b:ny) (aP:same a b=true):nis kf Y a b=Y (pd a b):=by
 obtain rfl:=sf aP
 simp only[nis,pQ,pd,bne_self_eq_false,beq_self_eq_true,Bool.not_true,aQ,aj,ng,nr]
theorem nod {a:nE} {left:Int} (Ok:kd nE.ct a.enc) (h1:0≤left) (h2:left≤1048576) (h0:0≤sG a left):sG a left≤1048576∧vd a=true:=by
 simp only[sG,TH,id] at h0 ⊢
 by_cases c0:oX a.pV left<0
 ·simp only[c0,decide_true,aj] at h0;omega
 simp only[c0,decide_false,aQ] at h0 ⊢
 have k0:=v_ h1 h2 (oG (nE.nvf Ok)).1 (Int.not_lt.1 c0)
 exact⟨k0.1,by simp only[vd,OL,k0.2,ng,nr,aj]⟩
theorem noj {a:nB} {left:Int} (Ok:kd nB.ct a.enc) (h1:0≤left) (h2:left≤1048576) (h0:0≤wN a left):wN a left≤1048576∧vf a=true:=by
 simp only[wN,TK,id] at h0 ⊢
 by_cases c0:nL (left - (len a.Key))<0
 ·simp only[c0,decide_true,aj] at h0;omega
 simp only[c0,decide_false,aQ] at h0 ⊢
 have k0:=nxu (vI (nB.nA0 Ok)) h1 h2 (Int.not_lt.1 c0)
 by_cases c1:oX a.Table (nL (left - (len a.Key)))<0
 ·simp only[c1,decide_true,aj] at h0;omega
 simp only[c1,decide_false,aQ] at h0 ⊢
 have k1:=v_ (Int.not_lt.1 c0) k0.1 (oG (nB.W8 Ok)).1 (Int.not_lt.1 c1)
 exact⟨k1.1,by simp only[vf,OR,k0.2,k1.2,ng,nr,aj]⟩
theorem nl9 {a:nz} {left:Int} (Ok:kd nz.ct a.enc) (h1:0≤left) (h2:left≤1048576) (h0:0≤uk a left):uk a left≤1048576∧True:=by
 simp only[uk,RL,id] at h0 ⊢
 by_cases c0:nL (left - (len a.Body))<0
 ·simp only[c0,decide_true,aj] at h0;omega
 simp only[c0,decide_false,aQ] at h0 ⊢
 have k0:=nxu (vI (nz.nxw Ok)) h1 h2 (Int.not_lt.1 c0)
 exact⟨k0.1,trivial⟩
theorem noe {a:nj} {left:Int} (Ok:kd nj.ct a.enc) (h1:0≤left) (h2:left≤1048576) (h0:0≤uV a left):uV a left≤1048576∧True:=by
 simp only[uV,TJ,id] at h0 ⊢
 by_cases c0:uk a.pG left<0
 ·simp only[c0,decide_true,aj] at h0;omega
 simp only[c0,decide_false,aQ] at h0 ⊢
 have k0:=nl9 (nj.nA2 Ok) h1 h2 (Int.not_lt.1 c0)
 exact⟨k0.1,trivial⟩
theorem nro {a:nU} {left:Int} (Ok:kd nU.ct a.enc) (h1:0≤left) (h2:left≤1048576) (h0:0≤wB a left):wB a left≤1048576∧True:=by
 simp only[wB,Wr,id] at h0 ⊢
 by_cases c0:uV a.nM left<0
 ·simp only[c0,decide_true,aj] at h0;omega
 simp only[c0,decide_false,aQ] at h0 ⊢
 have k0:=noe (nU.nzo Ok) h1 h2 (Int.not_lt.1 c0)
 exact⟨k0.1,trivial⟩
theorem noo {a:oh} {left:Int} (Ok:kd oh.ct a.enc) (h1:0≤left) (h2:left≤1048576) (h0:0≤tl a left):tl a left≤1048576∧True:=by
 simp only[tl,TL,id] at h0 ⊢
 by_cases c0:nL (left - (len a.Data))<0
 ·simp only[c0,decide_true,aj] at h0;omega
 simp only[c0,decide_false,aQ] at h0 ⊢
 have k0:=nxu (vI (oh.nAu Ok)) h1 h2 (Int.not_lt.1 c0)
 exact⟨k0.1,trivial⟩
theorem Wo {a:nJ} {left:Int} (Ok:kd nJ.ct a.enc) (h1:0≤left) (h2:left≤1048576) (h0:0≤rM a left):rM a left≤1048576∧tx a=true:=by
 simp only[rM,Sv,id] at h0 ⊢
 by_cases c0:oX a.qs left<0
 ·simp only[c0,decide_true,aj] at h0;omega
 simp only[c0,decide_false,aQ] at h0 ⊢
 have k0:=v_ h1 h2 (oG (nJ.nsB Ok)).1 (Int.not_lt.1 c0)
 exact⟨k0.1,by simp only[tx,Sy,k0.2,ng,nr,aj]⟩
theorem nhF {a:ni} {left:Int} (Ok:kd ni.ct a.enc) (h1:0≤left) (h2:left≤1048576) (h0:0≤te a left):te a left≤1048576∧tD a=true:=by
 simp only[te,Ph,id] at h0 ⊢
 by_cases c0:oX a.nC left<0
 ·simp only[c0,decide_true,aj] at h0;omega
 simp only[c0,decide_false,aQ] at h0 ⊢
 have k0:=v_ h1 h2 (oG (ni.W7 Ok)).1 (Int.not_lt.1 c0)
 exact⟨k0.1,by simp only[tD,xZ,k0.2,ng,nr,aj]⟩
theorem nmc {a:Rows} {left:Int} (Ok:G5 (.sl [.i,.i,.i,.i,.i,.i,.str,.bool]) (.sl a)) (h1:0≤left) (h2:left≤1048576) (h0:0≤sT a left):sT a left≤1048576∧sm a=true:=by
 obtain⟨hl,hw⟩:=oG Ok
 have h3:=ngQ (P:=fun _=>True) (fun r hr l hl0 GJ h=>⟨(noo (by rw[oh.eta (hw r hr)];exact hw r hr) hl0 GJ h).1,trivial⟩) h1 h2 hl h0
 exact⟨h3.1,h3.2.1⟩
theorem ntW {a:oZ} {left:Int} (Ok:kd oZ.ct a.enc) (h1:0≤left) (h2:left≤1048576) (h0:0≤sB a left):sB a left≤1048576∧um a=true:=by
 simp only[sB,Sw,id] at h0 ⊢
 by_cases c0:oX a.PD left<0
 ·simp only[c0,decide_true,aj] at h0;omega
 simp only[c0,decide_false,aQ] at h0 ⊢
 have k0:=v_ h1 h2 (oG (oZ.nvb Ok)).1 (Int.not_lt.1 c0)
 exact⟨k0.1,by simp only[um,Sz,k0.2,ng,nr,aj]⟩
theorem ndk {a:Rows} {left:Int} (Ok:G5 (.sl [.i,.i,.sl [.i]]) (.sl a)) (h1:0≤left) (h2:left≤1048576) (h0:0≤t9 a left):t9 a left≤1048576∧tP a=true:=by
 obtain⟨hl,hw⟩:=oG Ok
 have h3:=ngQ (P:=fun r=>um (oZ.nc r 0)=true) (fun r hr l hl0 GJ h=>ntW (by rw[oZ.eta (hw r hr)];exact hw r hr) hl0 GJ h) h1 h2 hl h0
 exact⟨h3.1,by simp only[tP,aw,List.all_eq_true];exact h3.2⟩
theorem Ya {a:Rows} {left:Int} (Ok:G5 (.sl [.str]) (.sl a)) (h1:0≤left) (h2:left≤1048576) (h0:0≤rX a left):rX a left≤1048576∧sm a=true:=by
 obtain⟨hl,hw⟩:=oG Ok
 have h3:=ngQ (P:=fun _=>True) (fun r hr l hl0 GJ h=>⟨(nxu (vI (show G5 .str (.str (rS r 0)) by have:=hw r hr;rw[←nxk this] at this;exact (nyL this).1)) hl0 GJ h).1,trivial⟩) h1 h2 hl h0
 exact⟨h3.1,h3.2.1⟩
theorem naJ {a:na} {left:Int} (Ok:kd na.ct a.enc) (h1:0≤left) (h2:left≤1048576) (h0:0≤pc a left):pc a left≤1048576∧ve a=true:=by
 simp only[pc,TI,id] at h0 ⊢
 by_cases c0:rX a.nP left<0
 ·simp only[c0,decide_true,aj] at h0;omega
 simp only[c0,decide_false,aQ] at h0 ⊢
 have k0:=Ya (na.xz Ok) h1 h2 (Int.not_lt.1 c0)
 exact⟨k0.1,by simp only[ve,OM,k0.2,ng,nr,aj]⟩
theorem nme {a:nt} {left:Int} (Ok:kd nt.ct a.enc) (h1:0≤left) (h2:left≤1048576) (h0:0≤pF a left):pF a left≤1048576∧ux a=true:=by
 simp only[pF,Ni,id] at h0 ⊢
 by_cases c0:rM a.oq left<0
 ·simp only[c0,decide_true,aj] at h0;omega
 simp only[c0,decide_false,aQ] at h0 ⊢
 have k0:=Wo (nt.nxy Ok) h1 h2 (Int.not_lt.1 c0)
 by_cases c1:t9 a.nK (rM a.oq left)<0
 ·simp only[c1,decide_true,aj] at h0;omega
 simp only[c1,decide_false,aQ] at h0 ⊢
 have k1:=ndk (nt.Sb Ok) (Int.not_lt.1 c0) k0.1 (Int.not_lt.1 c1)
 exact⟨k1.1,by simp only[ux,Nk,k0.2,k1.2,ng,nr,aj]⟩
theorem nl8 {a:nh} {left:Int} (Ok:kd nh.ct a.enc) (h1:0≤left) (h2:left≤1048576) (h0:0≤sR a left):sR a left≤1048576∧True:=by
 simp only[sR,RJ,id] at h0 ⊢
 by_cases c0:wB a.ql left<0
 ·simp only[c0,decide_true,aj] at h0;omega
 simp only[c0,decide_false,aQ] at h0 ⊢
 have k0:=nro (nh.nAx Ok) h1 h2 (Int.not_lt.1 c0)
 exact⟨k0.1,trivial⟩
theorem nkc {a:Rows} {left:Int} (Ok:G5 (.sl [.i,.i,.i,.i,.i,.i,.i,.i,.i,.i,.i,.i,.i,.i,.i,.i,.i,.i,.i,.i,.i,.i,.i,.i,.i,.str,.i,.i,.bool,.i]) (.sl a)) (h1:0≤left) (h2:left≤1048576) (h0:0≤qf a left):qf a left≤1048576∧sm a=true:=by
 obtain⟨hl,hw⟩:=oG Ok
 have h3:=ngQ (P:=fun _=>True) (fun r hr l hl0 GJ h=>⟨(nl8 (by rw[nh.eta (hw r hr)];exact hw r hr) hl0 GJ h).1,trivial⟩) h1 h2 hl h0
 exact⟨h3.1,h3.2.1⟩
theorem nrh {a:Rows} {left:Int} (Ok:G5 (.sl [.i,.i,.i,.sl [.i]]) (.sl a)) (h1:0≤left) (h2:left≤1048576) (h0:0≤rP a left):rP a left≤1048576∧uE a=true:=by
 obtain⟨hl,hw⟩:=oG Ok
 have h3:=ngQ (P:=fun r=>tx (nJ.nc r 0)=true) (fun r hr l hl0 GJ h=>Wo (by rw[nJ.eta (hw r hr)];exact hw r hr) hl0 GJ h) h1 h2 hl h0
 exact⟨h3.1,by simp only[uE,aw,List.all_eq_true];exact h3.2⟩
theorem nkd {a:nm} {left:Int} (Ok:kd nm.ct a.enc) (h1:0≤left) (h2:left≤1048576) (h0:0≤rW a left):rW a left≤1048576∧tX a=true:=by
 simp only[rW,Qz,id] at h0 ⊢
 by_cases c0:oX a.ot left<0
 ·simp only[c0,decide_true,aj] at h0;omega
 simp only[c0,decide_false,aQ] at h0 ⊢
 have k0:=v_ h1 h2 (oG (nm.nve Ok)).1 (Int.not_lt.1 c0)
 by_cases c1:te a.Table (oX a.ot left)<0
 ·simp only[c1,decide_true,aj] at h0;omega
 simp only[c1,decide_false,aQ] at h0 ⊢
 have k1:=nhF (nm.W8 Ok) (Int.not_lt.1 c0) k0.1 (Int.not_lt.1 c1)
 by_cases c2:wN a.nX (te a.Table (oX a.ot left))<0
 ·simp only[c2,decide_true,aj] at h0;omega
 simp only[c2,decide_false,aQ] at h0 ⊢
 have k2:=noj (nm.nzp Ok) (Int.not_lt.1 c1) k1.1 (Int.not_lt.1 c2)
 exact⟨k2.1,by simp only[tX,y8,k0.2,k1.2,k2.2,ng,nr,aj]⟩
theorem ntO {a:ny} {left:Int} (Ok:kd ny.ct a.enc) (h1:0≤left) (h2:left≤1048576) (h0:0≤wA a left):wA a left≤1048576∧tw a=true:=by
 simp only[wA,Su,id] at h0 ⊢
 by_cases c0:pc a.ox left<0
 ·simp only[c0,decide_true,aj] at h0;omega
 simp only[c0,decide_false,aQ] at h0 ⊢
 have k0:=naJ (ny.nwP Ok) h1 h2 (Int.not_lt.1 c0)
 by_cases c1:oX a.Maps (pc a.ox left)<0
 ·simp only[c1,decide_true,aj] at h0;omega
 simp only[c1,decide_false,aQ] at h0 ⊢
 have k1:=v_ (Int.not_lt.1 c0) k0.1 (oG (ny.ny4 Ok)).1 (Int.not_lt.1 c1)
 by_cases c2:pF a.Tx (oX a.Maps (pc a.ox left))<0
 ·simp only[c2,decide_true,aj] at h0;omega
 simp only[c2,decide_false,aQ] at h0 ⊢
 have k2:=nme (ny.nAE Ok) (Int.not_lt.1 c1) k1.1 (Int.not_lt.1 c2)
 by_cases c3:qf a.Rx (pF a.Tx (oX a.Maps (pc a.ox left)))<0
 ·simp only[c3,decide_true,aj] at h0;omega
 simp only[c3,decide_false,aQ] at h0 ⊢
 have k3:=nkc (ny.nAd Ok) (Int.not_lt.1 c2) k2.1 (Int.not_lt.1 c3)
 by_cases c4:rP a.og (qf a.Rx (pF a.Tx (oX a.Maps (pc a.ox left))))<0
 ·simp only[c4,decide_true,aj] at h0;omega
 simp only[c4,decide_false,aQ] at h0 ⊢
 have k4:=nrh (ny.nvd Ok) (Int.not_lt.1 c3) k3.1 (Int.not_lt.1 c4)
 by_cases c5:oX a.nS (rP a.og (qf a.Rx (pF a.Tx (oX a.Maps (pc a.ox left)))))<0
 ·simp only[c5,decide_true,aj] at h0;omega
 simp only[c5,decide_false,aQ] at h0 ⊢
 have k5:=v_ (Int.not_lt.1 c4) k4.1 (oG (ny.nkM Ok)).1 (Int.not_lt.1 c5)
 by_cases c6:oX a.oQ (oX a.nS (rP a.og (qf a.Rx (pF a.Tx (oX a.Maps (pc a.ox left))))))<0
 ·simp only[c6,decide_true,aj] at h0;omega
 simp only[c6,decide_false,aQ] at h0 ⊢
 have k6:=v_ (Int.not_lt.1 c5) k5.1 (oG (ny.nyI Ok)).1 (Int.not_lt.1 c6)
 by_cases c7:sG a.Filter (oX a.oQ (oX a.nS (rP a.og (qf a.Rx (pF a.Tx (oX a.Maps (pc a.ox left)))))))<0
 ·simp only[c7,decide_true,aj] at h0;omega
 simp only[c7,decide_false,aQ] at h0 ⊢
 have k7:=nod (ny.nzn Ok) (Int.not_lt.1 c6) k6.1 (Int.not_lt.1 c7)
 by_cases c8:rW a.nv (sG a.Filter (oX a.oQ (oX a.nS (rP a.og (qf a.Rx (pF a.Tx (oX a.Maps (pc a.ox left))))))))<0
 ·simp only[c8,decide_true,aj] at h0;omega
 simp only[c8,decide_false,aQ] at h0 ⊢
 have k8:=nkd (ny.nyf Ok) (Int.not_lt.1 c7) k7.1 (Int.not_lt.1 c8)
 by_cases c9:sT a.pJ (rW a.nv (sG a.Filter (oX a.oQ (oX a.nS (rP a.og (qf a.Rx (pF a.Tx (oX a.Maps (pc a.ox left)))))))))<0
 ·simp only[c9,decide_true,aj] at h0;omega
 simp only[c9,decide_false,aQ] at h0 ⊢
 have k9:=nmc (ny.nyJ Ok) (Int.not_lt.1 c8) k8.1 (Int.not_lt.1 c9)
 by_cases c10:rX a.vM (sT a.pJ (rW a.nv (sG a.Filter (oX a.oQ (oX a.nS (rP a.og (qf a.Rx (pF a.Tx (oX a.Maps (pc a.ox left))))))))))<0
 ·simp only[c10,decide_true,aj] at h0;omega
 simp only[c10,decide_false,aQ] at h0 ⊢
 have k10:=Ya (ny.nAB Ok) (Int.not_lt.1 c9) k9.1 (Int.not_lt.1 c10)
 by_cases c11:oX a.oF (rX a.vM (sT a.pJ (rW a.nv (sG a.Filter (oX a.oQ (oX a.nS (rP a.og (qf a.Rx (pF a.Tx (oX a.Maps (pc a.ox left)))))))))))<0
 ·simp only[c11,decide_true,aj] at h0;omega
 simp only[c11,decide_false,aQ] at h0 ⊢
 have k11:=v_ (Int.not_lt.1 c10) k10.1 (oG (ny.nxx Ok)).1 (Int.not_lt.1 c11)
 by_cases c12:oX a.oY (oX a.oF (rX a.vM (sT a.pJ (rW a.nv (sG a.Filter (oX a.oQ (oX a.nS (rP a.og (qf a.Rx (pF a.Tx (oX a.Maps (pc a.ox left))))))))))))<0
 ·simp only[c12,decide_true,aj] at h0;omega
 simp only[c12,decide_false,aQ] at h0 ⊢
 have k12:=v_ (Int.not_lt.1 c11) k11.1 (oG (ny.nye Ok)).1 (Int.not_lt.1 c12)
 exact⟨k12.1,by simp only[tw,Sx,k0.2,k1.2,k2.2,k3.2,k4.2,k5.2,k6.2,k7.2,k8.2,k9.2,k10.2,k11.2,k12.2,ng,nr,aj]⟩
def Nf (Y:Int→Rows→α) (ov:Int→Int→Rows→α) (rV i:Int) (NI:Rows):α:=
 bif decide (i<len NI) then
  bif Ed (Ed true (idx i NI)) (inl (Int.toNat i) NI) then
   ov (nL (rV+1)) (nL (i+1)) (List.set NI (Int.toNat i) (bX (nth NI (Int.toNat i)) 0 [.int rV]))
  else kf
 else Y rV NI
def Nd (Y:Int→Rows→α) (N m_:Nat):Int→Int→Rows→α:=
 Nat.rec (motive:=fun _=>Int→Int→Rows→α) (fun _ _ _=>kf) (fun _ ov=>Nf kf Y ov) m_
theorem V9 (Y:Int→Rows→α) (N m_:Nat):Nd kf Y N (m_+1)=Nf kf Y (Nd kf Y N m_):=rfl
def TF (kf:α) (Y:Int→Rows→α) (l0:Int→Int→Rows→α) (a:Rows) (k:Int):α:=
 l0 k 0 a
def ndc (Y:Int→Rows→α) (N:Nat) (a:Rows) (k:Int):α:=TF kf Y (Nd kf Y N N) a k
def sn (k:Int):List DC:=[.int k]
def sH (a:Rows) (k:Int):Int×Rows:=(k+1*a.length,vL sn 1 a.length k)
theorem nq5 (Y:Int→Rows→α) (a:Rows) (k:Int) (qA:G5 (.sl [.i]) (.sl a)) (aP:PC 1 a k=true):∃N,ndc kf Y N a k=Y (sH a k).1 (sH a k).2:=by
 obtain⟨hl,hw⟩:=oG qA
 obtain⟨h1,h2,h3⟩:=WA aP
 refine⟨a.length+1, ?_⟩
 unfold ndc TF sH
 refine ng6 a k 1 sn (Nd kf Y (a.length+1)) Y ?_ ?_
 ·intro n i b h hb hn
  rw[V9]
  have w1:nL (k+1*(i:Int)+1)=k+1*(i:Int)+1:=nF (by omega) (by omega)
  have hs:bX (nth a i) 0 (sn (k+1*(i:Int)))=sn (k+1*(i:Int)):=r_ (by rw[O4 (hw (nth a i) (sr h))];rfl)
  simp only[Nf,oU (show i<b.length by omega),nR (show i<b.length by omega),sq (show i<b.length by omega),ou h hl,J6,ng,nr,aj,hn,w1]
  rw[←hs];rfl
 ·intro n b hb
  rw[V9]
  simp only[Nf,←hb,nQ,aQ]
def Nc (Y:Int→α) (a:Rows) (ov:Int→Int→α) (rV i:Int):α:=
 bif decide (i<len a) then
  bif Ed true (idx i a) then
   bif (rI (nth a (Int.toNat i)) 0) != rV then Y (-1)
   else ov (nL (rV+1)) (nL (i+1))
  else kf
 else Y rV
def Nb (Y:Int→α) (N:Nat) (a:Rows) (m_:Nat):Int→Int→α:=
 Nat.rec (motive:=fun _=>Int→Int→α) (fun _ _=>kf) (fun _ ov=>Nc kf Y a ov) m_
theorem VX (Y:Int→α) (N:Nat) (a:Rows) (m_:Nat):Nb kf Y N a (m_+1)=Nc kf Y a (Nb kf Y N a m_):=rfl
def TE (kf:α) (Y:Int→α) (l0:Int→Int→α) (a:Rows) (k:Int):α:=
 l0 k 0
def nc8 (Y:Int→α) (N:Nat) (a:Rows) (k:Int):α:=TE kf Y (Nb kf Y N a N) a k
def rU (a:Rows) (k:Int):Int:=k+1*a.length
theorem nqY (Y:Int→α) (a:Rows) (k:Int) (qA:G5 (.sl [.i]) (.sl a)) (aP:QW sn 1 a k=true):∃N,nc8 kf Y N a k=Y (rU a k):=by
 obtain⟨hl,hw⟩:=oG qA
 obtain⟨h0,h1,h2,h3⟩:=nw2 aP
 refine⟨a.length+1, ?_⟩
 unfold nc8 TE rU
 refine ng3 a k 1 sn (Nb kf Y (a.length+1) a) Y h0 ?_ ?_
 ·intro n i h hn
  rw[VX]
  have w1:nL (k+1*(i:Int)+1)=k+1*(i:Int)+1:=nF (by omega) (by omega)
  simp only[Nc,oU h,nR h,ou h hl,J6,ng,nr,aj,hn,w1,nyF,bne_self_eq_false,sn,aQ]
 ·intro n
  rw[VX]
  simp only[Nc,nQ,aQ]
def yW (Y:Int→Rows→α) (ov:Int→Int→Rows→α) (rV i:Int) (NI:Rows):α:=
 bif decide (i<len NI) then
  bif Ed (Ed true (idx i NI)) (inl (Int.toNat i) NI) then
   ov (nL (rV+1)) (nL (i+1)) (List.set NI (Int.toNat i) (bX (nth NI (Int.toNat i)) 0 [.bool ((Int.tmod rV 3)==0)]))
  else kf
 else Y rV NI
def yV (Y:Int→Rows→α) (N m_:Nat):Int→Int→Rows→α:=
 Nat.rec (motive:=fun _=>Int→Int→Rows→α) (fun _ _ _=>kf) (fun _ ov=>yW kf Y ov) m_
theorem Ur (Y:Int→Rows→α) (N m_:Nat):yV kf Y N (m_+1)=yW kf Y (yV kf Y N m_):=rfl
def RB (kf:α) (Y:Int→Rows→α) (l0:Int→Int→Rows→α) (a:Rows) (k:Int):α:=
 l0 k 0 a
def naw (Y:Int→Rows→α) (N:Nat) (a:Rows) (k:Int):α:=RB kf Y (yV kf Y N N) a k
def PJ (k:Int):List DC:=[.bool (Int.tmod k 3==0)]
def RR (a:Rows) (k:Int):Int×Rows:=(k+1*a.length,vL PJ 1 a.length k)
theorem nn0 (Y:Int→Rows→α) (a:Rows) (k:Int) (qA:G5 (.sl [.bool]) (.sl a)) (aP:PC 1 a k=true):∃N,naw kf Y N a k=Y (RR a k).1 (RR a k).2:=by
 obtain⟨hl,hw⟩:=oG qA
 obtain⟨h1,h2,h3⟩:=WA aP
 refine⟨a.length+1, ?_⟩
 unfold naw RB RR
 refine ng6 a k 1 PJ (yV kf Y (a.length+1)) Y ?_ ?_
 ·intro n i b h hb hn
  rw[Ur]
  have w1:nL (k+1*(i:Int)+1)=k+1*(i:Int)+1:=nF (by omega) (by omega)
  have hs:bX (nth a i) 0 (PJ (k+1*(i:Int)))=PJ (k+1*(i:Int)):=r_ (by rw[O4 (hw (nth a i) (sr h))];rfl)
  simp only[yW,oU (show i<b.length by omega),nR (show i<b.length by omega),sq (show i<b.length by omega),ou h hl,J6,ng,nr,aj,hn,w1]
  rw[←hs];rfl
 ·intro n b hb
  rw[Ur]
  simp only[yW,←hb,nQ,aQ]
def yQ (Y:Int→α) (a:Rows) (ov:Int→Int→α) (rV i:Int):α:=
 bif decide (i<len a) then
  bif Ed true (idx i a) then
   bif !((rB (nth a (Int.toNat i)) 0)==((Int.tmod rV 3)==0)) then Y (-1)
   else ov (nL (rV+1)) (nL (i+1))
  else kf
 else Y rV
def yP (Y:Int→α) (N:Nat) (a:Rows) (m_:Nat):Int→Int→α:=
 Nat.rec (motive:=fun _=>Int→Int→α) (fun _ _=>kf) (fun _ ov=>yQ kf Y a ov) m_
theorem Ui (Y:Int→α) (N:Nat) (a:Rows) (m_:Nat):yP kf Y N a (m_+1)=yQ kf Y a (yP kf Y N a m_):=rfl
def Rs (kf:α) (Y:Int→α) (l0:Int→Int→α) (a:Rows) (k:Int):α:=
 l0 k 0
def naf (Y:Int→α) (N:Nat) (a:Rows) (k:Int):α:=Rs kf Y (yP kf Y N a N) a k
def UR (a:Rows) (k:Int):Int:=k+1*a.length
theorem nnN (Y:Int→α) (a:Rows) (k:Int) (qA:G5 (.sl [.bool]) (.sl a)) (aP:QW PJ 1 a k=true):∃N,naf kf Y N a k=Y (UR a k):=by
 obtain⟨hl,hw⟩:=oG qA
 obtain⟨h0,h1,h2,h3⟩:=nw2 aP
 refine⟨a.length+1, ?_⟩
 unfold naf Rs UR
 refine ng3 a k 1 PJ (yP kf Y (a.length+1) a) Y h0 ?_ ?_
 ·intro n i h hn
  rw[Ui]
  have w1:nL (k+1*(i:Int)+1)=k+1*(i:Int)+1:=nF (by omega) (by omega)
  simp only[yQ,oU h,nR h,ou h hl,J6,ng,nr,aj,hn,w1,nAX,beq_self_eq_true,Bool.not_true,PJ,aQ]
 ·intro n
  rw[Ui]
  simp only[yQ,nQ,aQ]
def xp (Y:Bytes→α) (ov:Int→Bytes→α) (rV:Int) (oc:Bytes):α:=
 bif decide (0<rV) then
  bif Ed true (oz (toStr ([[.int (IntKind.wrap .u8 (nL (48+(Int.tmod rV 10))))]])) oc) then
   ov (nL (Int.tdiv rV 10)) ((toStr ([[.int (IntKind.wrap .u8 (nL (48+(Int.tmod rV 10))))]]))++oc)
  else kf
 else bif Ed true (oz [109] oc) then
   Y ([109]++oc)
  else kf
def Ng (Y:Bytes→α) (N m_:Nat):Int→Bytes→α:=
 Nat.rec (motive:=fun _=>Int→Bytes→α) (fun _ _=>kf) (fun _ ov=>xp kf Y ov) m_
theorem Wh (Y:Bytes→α) (N m_:Nat):Ng kf Y N (m_+1)=xp kf Y (Ng kf Y N m_):=rfl
def TG (kf:α) (Y:Bytes→α) (l0:Int→Bytes→α) (k:Int):α:=
 bif decide (k≤0) then Y [109,48]
 else l0 k []
def ndg (Y:Bytes→α) (N:Nat) (k:Int):α:=TG kf Y (Ng kf Y N N) k
def mtD (k:Int):Bytes:=toStr ([[.int (IntKind.wrap .u8 (nL (48+(Int.tmod k 10))))]])
def mtl:Nat→Int→Bytes→Bytes
 | 0,_,o=>o
 | n+1,k,o=>bif decide (0<k) then mtl n (nL (Int.tdiv k 10)) (mtD k++o) else o
def S3 (k:Int):Bytes:=bif decide (k≤0) then [109,48] else [109]++mtl 25 k []
theorem nq_ (Y:Bytes→α) (k:Int) (h_k:G5 .i (.int k)):∃N,ndg kf Y N k=Y (S3 k):=by
 have h63:=wR h_k
 refine⟨26, ?_⟩
 have key:∀(n:Nat) (k:Int) (o:Bytes),0≤k→k≤9223372036854775807→k<10 ^ n→o.length+n≤100→
   Ng kf Y 26 (n+1) k o=Y ([109]++mtl n k o):=by
  intro n
  induction n with
  | zero=>
   intro k o h0 h1 h2 h3
   have:k=0:=by simp only[Int.pow_zero] at h2;omega
   subst this
   rw[Wh]
   have c1:oz [109] o=true:=by simp only[oz,dx,List.length_nil,eX];omega
   simp only[xp,c1,ng,aj,mtl]
   rfl
  | succ n ih=>
   intro k o h0 h1 h2 h3
   rw[Wh]
   have c1:oz [109] o=true:=by simp only[oz,dx,List.length_nil,eX];omega
   by_cases hk:0<k
   ·have l1:(mtD k).length=1:=rfl
    have c2:oz (mtD k) o=true:=by simp only[oz,l1,eX];omega
    have e1:Int.tdiv k 10=k / 10:=Int.tdiv_eq_ediv_of_nonneg h0
    have e2:nL (Int.tdiv k 10)=k / 10:=by rw[e1];exact nF (by omega) (by omega)
    have:=ih (k / 10) (mtD k++o) (by omega) (by omega) (by rw[Int.pow_succ] at h2;omega) (by rw[fv,l1];omega)
    have hd:decide (0<k)=true:=Lu hk
    unfold xp mtl
    rw[hd,e2]
    show (bif Ed true (oz (mtD k) o) then _ else kf)=_
    rw[c2]
    exact this
   ·have hd:decide (0<k)=false:=Lt hk
    simp only[xp,hd,c1,ng,aj,aQ,mtl]
 unfold ndg TG S3
 by_cases h:k≤0
 ·simp only[Lu h,aj]
 ·simp only[Lt h,aQ]
  exact key 25 k [] (by omega) (by omega) (by omega) (by simp)
def xa (Y:Int→Rows→α) (ov:Int→Int→Rows→α) (rV i:Int) (NI:Rows):α:=
 bif decide (i<len NI) then
  bif Ed (Ed true (idx i NI)) (inl (Int.toNat i) NI) then
   ov (nL (rV+1)) (nL (i+1)) (List.set NI (Int.toNat i) (bX (nth NI (Int.toNat i)) 0 [.str (S3 rV)]))
  else kf
 else Y rV NI
def w_ (Y:Int→Rows→α) (N m_:Nat):Int→Int→Rows→α:=
 Nat.rec (motive:=fun _=>Int→Int→Rows→α) (fun _ _ _=>kf) (fun _ ov=>xa kf Y ov) m_
theorem Q_ (Y:Int→Rows→α) (N m_:Nat):w_ kf Y N (m_+1)=xa kf Y (w_ kf Y N m_):=rfl
def Pf (kf:α) (Y:Int→Rows→α) (l0:Int→Int→Rows→α) (a:Rows) (k:Int):α:=
 l0 k 0 a
def Wf (Y:Int→Rows→α) (N:Nat) (a:Rows) (k:Int):α:=Pf kf Y (w_ kf Y N N) a k
def tc (k:Int):List DC:=[.str (S3 k)]
def uW (a:Rows) (k:Int):Int×Rows:=(k+1*a.length,vL tc 1 a.length k)
theorem nj2 (Y:Int→Rows→α) (a:Rows) (k:Int) (qA:G5 (.sl [.str]) (.sl a)) (aP:PC 1 a k=true):∃N,Wf kf Y N a k=Y (uW a k).1 (uW a k).2:=by
 obtain⟨hl,hw⟩:=oG qA
 obtain⟨h1,h2,h3⟩:=WA aP
 refine⟨a.length+1, ?_⟩
 unfold Wf Pf uW
 refine ng6 a k 1 tc (w_ kf Y (a.length+1)) Y ?_ ?_
 ·intro n i b h hb hn
  rw[Q_]
  have w1:nL (k+1*(i:Int)+1)=k+1*(i:Int)+1:=nF (by omega) (by omega)
  have hs:bX (nth a i) 0 (tc (k+1*(i:Int)))=tc (k+1*(i:Int)):=r_ (by rw[O4 (hw (nth a i) (sr h))];rfl)
  simp only[xa,oU (show i<b.length by omega),nR (show i<b.length by omega),sq (show i<b.length by omega),ou h hl,J6,ng,nr,aj,hn,w1]
  rw[←hs];rfl
 ·intro n b hb
  rw[Q_]
  simp only[xa,←hb,nQ,aQ]
def w9 (Y:Int→α) (a:Rows) (ov:Int→Int→α) (rV i:Int):α:=
 bif decide (i<len a) then
  bif Ed true (idx i a) then
   bif !((rS (nth a (Int.toNat i)) 0)==(S3 rV)) then Y (-1)
   else ov (nL (rV+1)) (nL (i+1))
  else kf
 else Y rV
def w8 (Y:Int→α) (N:Nat) (a:Rows) (m_:Nat):Int→Int→α:=
 Nat.rec (motive:=fun _=>Int→Int→α) (fun _ _=>kf) (fun _ ov=>w9 kf Y a ov) m_
theorem QZ (Y:Int→α) (N:Nat) (a:Rows) (m_:Nat):w8 kf Y N a (m_+1)=w9 kf Y a (w8 kf Y N a m_):=rfl
def Pa (kf:α) (Y:Int→α) (l0:Int→Int→α) (a:Rows) (k:Int):α:=
 l0 k 0
def V4 (Y:Int→α) (N:Nat) (a:Rows) (k:Int):α:=Pa kf Y (w8 kf Y N a N) a k
def uS (a:Rows) (k:Int):Int:=k+1*a.length
theorem njT (Y:Int→α) (a:Rows) (k:Int) (qA:G5 (.sl [.str]) (.sl a)) (aP:QW tc 1 a k=true):∃N,V4 kf Y N a k=Y (uS a k):=by
 obtain⟨hl,hw⟩:=oG qA
 obtain⟨h0,h1,h2,h3⟩:=nw2 aP
 refine⟨a.length+1, ?_⟩
 unfold V4 Pa uS
 refine ng3 a k 1 tc (w8 kf Y (a.length+1) a) Y h0 ?_ ?_
 ·intro n i h hn
  rw[QZ]
  have w1:nL (k+1*(i:Int)+1)=k+1*(i:Int)+1:=nF (by omega) (by omega)
  simp only[w9,oU h,nR h,ou h hl,J6,ng,nr,aj,hn,w1,nf2,beq_self_eq_true,Bool.not_true,tc,aQ]
 ·intro n
  rw[QZ]
  simp only[w9,nQ,aQ]
inductive FK where
 | i
 | b
 | s
def FK.v:FK→Int→DC
 | .i,k=> .int k
 | .b,k=> .bool (Int.tmod k 3==0)
 | .s,k=> .str (S3 k)
def FK.ne:FK→List DC→Nat→Int→Bool
 | .i,r,w,k=>rI r w != k
 | .b,r,w,k=> !(rB r w==(Int.tmod k 3==0))
 | .s,r,w,k=> !(rS r w==S3 k)
def fkF (ks:List FK):Int→List DC:=
 List.rec (motive:=fun _=>Int→List DC) (fun _=>[]) (fun f _ ih k=>f.v k::ih (k+1)) ks
theorem nzk (p:List DC) (x y:DC) (r:List DC) {w:Nat} (h:p.length=w):bX (p++x::r) w [y]=p++y::r:=by
 subst h
 simp [bX]
theorem nw1 (p:List DC) (x d:DC) (r:List DC) {w:Nat} (h:p.length=w):(p++x::r).getD w d=x:=by
 subst h
 simp
theorem nx2 {A:Rows} {i:Nat} (hi:i<A.length):A.set i (nth A i)=A:=by
 have e:nth A i=A[i]:=by simp [nth,hi]
 rw[e,List.set_getElem_self]
def mkG (i:Int) (fin:Int→Rows→α) (ks:List FK):Nat→Int→Rows→α:=
 List.rec (motive:=fun _=>Nat→Int→Rows→α) (fun _ k A=>fin k A) (fun f _ ih w k A=>bif Ed (Ed true (idx i A)) (inl (Int.toNat i) A) then ih (w+1) (nL (k+1)) (List.set A (Int.toNat i) (bX (nth A (Int.toNat i)) w [f.v k])) else kf) ks
theorem nAn (i:Nat) (fin:Int→Rows→α):∀(ks:List FK) (w:Nat) (K:Int) (A:Rows) (p r:List DC),i<A.length→nth A i=p++r→p.length=w→r.length=ks.length→0≤K→K+ks.length≤9223372036854775807→
  mkG kf (i:Int) fin ks w K A=fin (K+ks.length) (A.set i (p++fkF ks K)):=by
 intro ks
 induction ks with
 | nil=>
  intro w K A p r hi hn hp hr h0 h1
  have hr:r=[]:=List.length_eq_zero_iff.1 hr
  subst hr
  show fin K A=fin (K+((0:Nat):Int)) (A.set i (p++[]))
  rw[←hn,nx2 hi]
  simp
 | cons f fs ih=>
  intro w K A p r hi hn hp hr h0 h1
  cases r with
  | nil=>cases hr
  | cons x r=>
   have hf:((f::fs).length:Int)=(fs.length:Int)+1:=by simp
   rw[hf] at h1 ⊢
   show (bif Ed (Ed true (idx (i:Int) A)) (inl (Int.toNat (i:Int)) A) then mkG kf (i:Int) fin fs (w+1) (nL (K+1)) (List.set A (Int.toNat (i:Int)) (bX (nth A (Int.toNat (i:Int))) w [f.v K])) else kf)=_
   simp only[J6,nR hi,sq hi,ng,aj]
   rw[show nL (K+1)=K+1 from nF (by omega) (by omega),hn,nzk p x (f.v K) r hp]
   refine (ih (w+1) (K+1) _ (p++[f.v K]) r (by rw[List.length_set];exact hi) (by rw[na9 hi,List.append_assoc];rfl) (by simp [hp]) (by simpa using hr) (by omega) (by omega)).trans ?_
   rw[List.set_set,show K+1+(fs.length:Int)=K+((fs.length:Int)+1) by omega,List.append_assoc]
   rfl
def mkL (ks:List FK) {α:Type} (kf:α) (Y:Int→Rows→α) (ov:Int→Int→Rows→α) (k i:Int) (a:Rows):α:=
 bif decide (i<len a) then mkG kf i (fun k A=>ov k (nL (i+1)) A) ks 0 k a else Y k a
def nwe (ks:List FK) {α:Type} (kf:α) (Y:Int→Rows→α) (N m_:Nat):Int→Int→Rows→α:=
 Nat.rec (motive:=fun _=>Int→Int→Rows→α) (fun _ _ _=>kf) (fun _ ov=>mkL ks kf Y ov) m_
def mkT (kf:α) (Y:Int→Rows→α) (l0:Int→Int→Rows→α) (a:Rows) (k:Int):α:=l0 k 0 a
def noN (ks:List FK) {α:Type} (kf:α) (Y:Int→Rows→α) (N:Nat) (a:Rows) (k:Int):α:=mkT kf Y (nwe ks kf Y N N) a k
theorem nuh {c:Int} (h0:0≤c) (h1:c≤1000) {i:Nat} (hi:i≤16777216):0≤c*(i:Int)∧c*(i:Int)≤16777216000:=by
 refine⟨Int.mul_nonneg h0 (by omega), ?_⟩
 have:=Int.mul_le_mul h1 (show (i:Int)≤16777216 by omega) (by omega) (by omega)
 omega
theorem nzh (ks:List FK) (c:Int) (hc:(ks.length:Int)=c) (JH:c≤1000) (kf:α) (Y:Int→Rows→α) (a:Rows) (k:Int) (hl:a.length≤9223372036854775807) (hr:∀r∈a,r.length=ks.length) (aP:PC c a k=true):
  ∃N,noN ks kf Y N a k=Y (k+c*a.length) (vL (fkF ks) c a.length k):=by
 obtain⟨h1,h2,h3⟩:=WA aP
 refine⟨a.length+1, ?_⟩
 refine ng6 a k c (fkF ks) (nwe ks kf Y (a.length+1)) Y ?_ ?_
 ·intro n i b h hb hn
  show mkL ks kf Y (nwe ks kf Y (a.length+1) n) (k+c*i) (i:Int) b=_
  have mi:i<b.length:=by omega
  have hw:=hr _ (sr h)
  have hm:=nuh (c:=c) (by omega) JH (show i≤16777216 by omega)
  unfold mkL
  rw[oU mi,aj]
  refine (nAn kf i _ ks 0 (k+c*i) b [] (nth a i) mi hn rfl hw (by omega) (by omega)).trans ?_
  rw[ou h hl,hc]
  rfl
 ·intro n b hb
  show mkL ks kf Y (nwe ks kf Y (a.length+1) n) (k+c*a.length) (a.length:Int) b=_
  unfold mkL
  rw[←hb,nQ,aQ]
def hlG (kf no:α) (a:Rows) (i:Int) (fin:Int→α) (ks:List FK):Nat→Int→α:=
 List.rec (motive:=fun _=>Nat→Int→α) (fun _ k=>fin k) (fun f _ ih w k=>bif Ed true (idx i a) then bif f.ne (nth a (Int.toNat i)) w k then no else ih (w+1) (nL (k+1)) else kf) ks
theorem nAl (kf no:α) (a:Rows) (i:Nat) (hi:i<a.length) (fin:Int→α):∀(ks:List FK) (w:Nat) (K:Int) (p:List DC),nth a i=p++fkF ks K→p.length=w→0≤K→K+ks.length≤9223372036854775807→
  hlG kf no a (i:Int) fin ks w K=fin (K+ks.length):=by
 intro ks
 induction ks with
 | nil=>
  intro w K p hn hp h0 h1
  show fin K=fin (K+((0:Nat):Int))
  simp
 | cons f fs ih=>
  intro w K p hn hp h0 h1
  have hf:((f::fs).length:Int)=(fs.length:Int)+1:=by simp
  rw[hf] at h1 ⊢
  have hn:nth a i=p++f.v K::fkF fs (K+1):=hn
  show (bif Ed true (idx (i:Int) a) then bif f.ne (nth a (Int.toNat (i:Int))) w K then no else hlG kf no a (i:Int) fin fs (w+1) (nL (K+1)) else kf)=_
  have he:f.ne (nth a i) w K=false:=by
   rw[hn]
   cases f
   ·simp only[FK.ne,rI,nw1 p _ _ _ hp,FK.v,DC.asInt,bne_self_eq_false]
   ·simp only[FK.ne,rB,nw1 p _ _ _ hp,FK.v,DC.asBool,beq_self_eq_true,Bool.not_true]
   ·simp only[FK.ne,rS,nw1 p _ _ _ hp,FK.v,DC.Gt,beq_self_eq_true,Bool.not_true]
  simp only[J6,nR hi,ng,aj,aQ,he]
  rw[show nL (K+1)=K+1 from nF (by omega) (by omega)]
  refine (ih (w+1) (K+1) (p++[f.v K]) (by rw[hn,List.append_assoc];rfl) (by simp [hp]) (by omega) (by omega)).trans ?_
  rw[show K+1+(fs.length:Int)=K+((fs.length:Int)+1) by omega]
def hlL (ks:List FK) {α:Type} (kf:α) (Y:Int→α) (a:Rows) (ov:Int→Int→α) (k i:Int):α:=
 bif decide (i<len a) then hlG kf (Y (-1)) a i (fun k=>ov k (nL (i+1))) ks 0 k else Y k
def nvg (ks:List FK) {α:Type} (kf:α) (Y:Int→α) (N:Nat) (a:Rows) (m_:Nat):Int→Int→α:=
 Nat.rec (motive:=fun _=>Int→Int→α) (fun _ _=>kf) (fun _ ov=>hlL ks kf Y a ov) m_
def hlT (kf:α) (Y:Int→α) (l0:Int→Int→α) (a:Rows) (k:Int):α:=l0 k 0
def nm6 (ks:List FK) {α:Type} (kf:α) (Y:Int→α) (N:Nat) (a:Rows) (k:Int):α:=hlT kf Y (nvg ks kf Y N a N) a k
theorem nzc (ks:List FK) (c:Int) (hc:(ks.length:Int)=c) (JH:c≤1000) (kf:α) (Y:Int→α) (a:Rows) (k:Int) (hl:a.length≤9223372036854775807) (aP:QW (fkF ks) c a k=true):
  ∃N,nm6 ks kf Y N a k=Y (k+c*a.length):=by
 obtain⟨h0,h1,h2,h3⟩:=nw2 aP
 refine⟨a.length+1, ?_⟩
 refine ng3 a k c (fkF ks) (nvg ks kf Y (a.length+1) a) Y h0 ?_ ?_
 ·intro n i h hn
  show hlL ks kf Y a (nvg ks kf Y (a.length+1) a n) (k+c*i) (i:Int)=_
  have hm:=nuh (c:=c) (by omega) JH (show i≤16777216 by omega)
  unfold hlL
  rw[oU h,aj]
  refine (nAl kf _ a i h _ ks 0 (k+c*i) [] hn rfl (by omega) (by omega)).trans ?_
  rw[ou h hl,hc]
 ·intro n
  show hlL ks kf Y a (nvg ks kf Y (a.length+1) a n) (k+c*a.length) (a.length:Int)=_
  unfold hlL
  rw[nQ,aQ]
def WD:List FK:=[.i,.i,.i,.i,.i,.i,.s,.b]
def PK:Int→List DC:=fkF WD
def PA (a:Rows) (k:Int):Int×Rows:=(k+8*a.length,vL PK 8 a.length k)
theorem njZ (Y:Int→Rows→α) (a:Rows) (k:Int) (qA:G5 (.sl [.i,.i,.i,.i,.i,.i,.str,.bool]) (.sl a)) (aP:PC 8 a k=true):∃N,noN WD kf Y N a k=Y (PA a k).1 (PA a k).2:=by
 obtain⟨hl,hw⟩:=oG qA
 exact nzh WD 8 (by rfl) (by decide) kf Y a k hl (fun r hr=>O4 (hw r hr)) aP
def SL (a:Rows) (k:Int):Int:=k+8*a.length
theorem njQ (Y:Int→α) (a:Rows) (k:Int) (qA:G5 (.sl [.i,.i,.i,.i,.i,.i,.str,.bool]) (.sl a)) (aP:QW PK 8 a k=true):∃N,nm6 WD kf Y N a k=Y (SL a k):=by
 exact nzc WD 8 (by rfl) (by decide) kf Y a k (oG qA).1 aP
def nkk:List FK:=[.i,.i,.i,.i,.i,.i,.i]
def nby:Int→List DC:=fkF nkk
def RS (a:Rows) (k:Int):Int×Rows:=(k+7*a.length,vL nby 7 a.length k)
theorem noa (Y:Int→Rows→α) (a:Rows) (k:Int) (qA:G5 (.sl [.i,.i,.i,.i,.i,.i,.i]) (.sl a)) (aP:PC 7 a k=true):∃N,noN nkk kf Y N a k=Y (RS a k).1 (RS a k).2:=by
 obtain⟨hl,hw⟩:=oG qA
 exact nzh nkk 7 (by rfl) (by decide) kf Y a k hl (fun r hr=>O4 (hw r hr)) aP
def US (a:Rows) (k:Int):Int:=k+7*a.length
theorem nnY (Y:Int→α) (a:Rows) (k:Int) (qA:G5 (.sl [.i,.i,.i,.i,.i,.i,.i]) (.sl a)) (aP:QW nby 7 a k=true):∃N,nm6 nkk kf Y N a k=Y (US a k):=by
 exact nzc nkk 7 (by rfl) (by decide) kf Y a k (oG qA).1 aP
def R2:List FK:=[.i,.i,.i,.i,.i,.i,.i,.i,.i,.i,.i,.i,.i,.i,.i,.i,.i,.i,.i,.i,.i,.i,.i,.i,.i,.s,.i,.i,.b,.i]
def zK:Int→List DC:=fkF R2
def Np (a:Rows) (k:Int):Int×Rows:=(k+30*a.length,vL zK 30 a.length k)
theorem nhv (Y:Int→Rows→α) (a:Rows) (k:Int) (qA:G5 (.sl [.i,.i,.i,.i,.i,.i,.i,.i,.i,.i,.i,.i,.i,.i,.i,.i,.i,.i,.i,.i,.i,.i,.i,.i,.i,.str,.i,.i,.bool,.i]) (.sl a)) (aP:PC 30 a k=true):∃N,noN R2 kf Y N a k=Y (Np a k).1 (Np a k).2:=by
 obtain⟨hl,hw⟩:=oG qA
 exact nzh R2 30 (by rfl) (by decide) kf Y a k hl (fun r hr=>O4 (hw r hr)) aP
def PQ (a:Rows) (k:Int):Int:=k+30*a.length
theorem nhl (Y:Int→α) (a:Rows) (k:Int) (qA:G5 (.sl [.i,.i,.i,.i,.i,.i,.i,.i,.i,.i,.i,.i,.i,.i,.i,.i,.i,.i,.i,.i,.i,.i,.i,.i,.i,.str,.i,.i,.bool,.i]) (.sl a)) (aP:QW zK 30 a k=true):∃N,nm6 R2 kf Y N a k=Y (PQ a k):=by
 exact nzc R2 30 (by rfl) (by decide) kf Y a k (oG qA).1 aP
def yY (Y:Int→Rows→α) (ov:Int→Int→Rows→α) (rV i:Int) (NI:Rows):α:=
 let z0:Rows:=List.set NI (Int.toNat i) (bX (nth NI (Int.toNat i)) 0 [.int rV])
 let z1:Rows:=List.set z0 (Int.toNat i) (bX (nth z0 (Int.toNat i)) 1 [.int (nL (rV+1))])
 let z2:Int:=nL ((nL (rV+1))+1)
 let z3:Rows:=List.set z1 (Int.toNat i) (bX (nth z1 (Int.toNat i)) 2 [.int z2])
 let z4:List DC:=nth z3 (Int.toNat i)
 let z5:Rows:=rR z4 3
 let z6:Int:=nL (z2+1)
 let z7:Int×Rows:=sH z5 z6
 bif decide (i<len NI) then
  bif Ed (Ed true (idx i NI)) (inl (Int.toNat i) NI) then
   bif Ed (Ed true (idx i z0)) (inl (Int.toNat i) z0) then
    bif Ed (Ed true (idx i z1)) (inl (Int.toNat i) z1) then
     bif Ed (Ed (Ed true (idx i z3)) (inl (Int.toNat i) z3)) (PC 1 z5 z6) then
      ov z7.1 (nL (i+1)) (List.set z3 (Int.toNat i) (bX z4 3 [.sl z7.2]))
     else kf
    else kf
   else kf
  else kf
 else Y rV NI
def yX (Y:Int→Rows→α) (N m_:Nat):Int→Int→Rows→α:=
 Nat.rec (motive:=fun _=>Int→Int→Rows→α) (fun _ _ _=>kf) (fun _ ov=>yY kf Y ov) m_
theorem Uu (Y:Int→Rows→α) (N m_:Nat):yX kf Y N (m_+1)=yY kf Y (yX kf Y N m_):=rfl
def RE (kf:α) (Y:Int→Rows→α) (l0:Int→Int→Rows→α) (a:Rows) (k:Int):α:=
 l0 k 0 a
def naA (Y:Int→Rows→α) (N:Nat) (a:Rows) (k:Int):α:=RE kf Y (yX kf Y N N) a k
def sP (r:List DC) (k:Int):List DC×Int:=([.int (k),.int (k+1),.int (k+1+1),.sl (vL sn 1 (rR r 3).length (k+1+1+1))],k+1+1+1+1*(rR r 3).length)
def Th (r:List DC) (k:Int):Bool:=PC 1 (rR r 3) (k+1+1+1)
def Nn (a:Rows) (k:Int):Int×Rows:=((S4 sP a k).2,(S4 sP a k).1)
theorem nn3 (Y:Int→Rows→α) (a:Rows) (k:Int) (qA:G5 (.sl [.i,.i,.i,.sl [.i]]) (.sl a)) (aP:y9 sP Th a k=true):∃N,naA kf Y N a k=Y (Nn a k).1 (Nn a k).2:=by
 obtain⟨hl,hw⟩:=oG qA
 refine⟨a.length+1, ?_⟩
 unfold naA RE Nn
 refine nxX a k sP Th (yX kf Y (a.length+1)) Y aP ?_ ?_
 ·intro n i k b h hb hn hg
  rw[Uu]
  have hr:=O4 (hw (nth a i) (sr h))
  have hk: -1*4≤k:=by have:=(WA hg).2.1;omega
  rw[←hn] at hg hr ⊢
  have mi:i<b.length:=by omega
  generalize MI:nth b i=r at*
  match r,hr with
  | [a0,a1,a2,a3],_=>
   have H5:PC 1 (DC.cV a3) (k+1+1+1)=true:=hg
   obtain⟨g1,g2,g3⟩:=WA H5
   have rr:∀x0 x1 x2 x3:DC,rR [x0,x1,x2,x3] 3=DC.cV x3:=fun _ _ _ _=>rfl
   have s0:∀x0 x1 x2 x3 v:DC,bX [x0,x1,x2,x3] 0 [v]=[v,x1,x2,x3]:=fun _ _ _ _ _=>rfl
   have s1:∀x0 x1 x2 x3 v:DC,bX [x0,x1,x2,x3] 1 [v]=[x0,v,x2,x3]:=fun _ _ _ _ _=>rfl
   have s2:∀x0 x1 x2 x3 v:DC,bX [x0,x1,x2,x3] 2 [v]=[x0,x1,v,x3]:=fun _ _ _ _ _=>rfl
   have s3:∀x0 x1 x2 x3 v:DC,bX [x0,x1,x2,x3] 3 [v]=[x0,x1,x2,v]:=fun _ _ _ _ _=>rfl
   have w0:nL (k+1)=k+1:=nF (by omega) (by omega)
   have w1:nL (k+1+1)=k+1+1:=nF (by omega) (by omega)
   have w2:nL (k+1+1+1)=k+1+1+1:=nF (by omega) (by omega)
   simp only[yY,oU mi,nR mi,sq mi,ou h hl,J6,ng,nr,aj,MI,w0,w1,w2,nxM,nxT,List.set_set,na9 mi,s0,s1,s2,s3,rr,sH,H5,sP]
 ·intro n k b hb
  rw[Uu]
  simp only[yY,←hb,nQ,aQ]
def nbH (a:Rows):Bool:=sm a && a.all (fun r=>sm (rR r 3))
theorem nrJ {a:Rows} (h:nbH a=true) {k:Int} (h0:0≤k) (h1:k≤600000000000000):y9 sP Th a k=true∧k≤(Nn a k).1∧(Nn a k).1≤k+281475110928384:=by
 simp only[nbH,aw,List.all_eq_true] at h
 have hl:=uy h.1
 obtain⟨h2,h3,h4⟩:=noO (f:=sP) (g:=Th) (B:=1125899906842000) (C:=16777224) (by omega) a k (fun r hr k k0 k1=>by
  have hs:=uy (h.2 r hr)
  refine⟨zA (h.2 r hr) (by omega) (by omega), ?_, ?_⟩
  ·show k≤k+1+1+1+1*((rR r 3).length:Int)
   omega
  ·show k+1+1+1+1*((rR r 3).length:Int)≤k+16777224
   omega) h0 (by omega)
 exact⟨h2,h3,by show (S4 sP a k).2≤_;omega⟩
def yS (Y:Int→α) (a:Rows) (ov:Int→Int→α) (rV i:Int):α:=
 let z0:Int:=nL ((nL (rV+1))+1)
 let z1:Int:=nL (z0+1)
 let z2:Int:=rU (rR (nth a (Int.toNat i)) 3) z1
 bif decide (i<len a) then
  bif Ed true (idx i a) then
   bif (rI (nth a (Int.toNat i)) 0) != rV then Y (-1)
   else bif Ed true (idx i a) then
     bif (rI (nth a (Int.toNat i)) 1) != (nL (rV+1)) then Y (-1)
     else bif Ed true (idx i a) then
       bif (rI (nth a (Int.toNat i)) 2) != z0 then Y (-1)
       else bif Ed (Ed true (idx i a)) (QW sn 1 (rR (nth a (Int.toNat i)) 3) z1) then
         bif decide (z2<0) then Y (-1)
         else ov z2 (nL (i+1))
        else kf
      else kf
    else kf
  else kf
 else Y rV
def yR (Y:Int→α) (N:Nat) (a:Rows) (m_:Nat):Int→Int→α:=
 Nat.rec (motive:=fun _=>Int→Int→α) (fun _ _=>kf) (fun _ ov=>yS kf Y a ov) m_
theorem Ul (Y:Int→α) (N:Nat) (a:Rows) (m_:Nat):yR kf Y N a (m_+1)=yS kf Y a (yR kf Y N a m_):=rfl
def Ru (kf:α) (Y:Int→α) (l0:Int→Int→α) (a:Rows) (k:Int):α:=
 l0 k 0
def naj (Y:Int→α) (N:Nat) (a:Rows) (k:Int):α:=Ru kf Y (yR kf Y N a N) a k
def ng4 (a:Rows) (k:Int):Bool:=same a (S4 sP a k).1 && y9 sP Th a k
def Zk (a:Rows) (k:Int):Int:=(S4 sP a k).2
theorem nnQ (Y:Int→α) (a:Rows) (k:Int) (qA:G5 (.sl [.i,.i,.i,.sl [.i]]) (.sl a)) (aP:ng4 a k=true):∃N,naj kf Y N a k=Y (Zk a k):=by
 obtain⟨hl,hw⟩:=oG qA
 simp only[ng4,aw] at aP
 refine⟨a.length+1, ?_⟩
 unfold naj Ru Zk
 refine nxL a k sP Th (yR kf Y (a.length+1) a) Y aP.2 (sf aP.1) ?_ ?_
 ·intro n i k h hn hg
  rw[Ul]
  have H5:PC 1 (rR (nth a i) 3) (k+1+1+1)=true:=hg
  obtain⟨g1,g2,g3⟩:=WA H5
  have e:rR (nth a i) 3=vL sn 1 (rR (nth a i) 3).length (k+1+1+1):=congrArg (fun r=>rR r 3) hn
  have hh:QW sn 1 (rR (nth a i) 3) (k+1+1+1)=true:=by
   simp only[QW,aw]
   exact⟨by rw[←e];exact pQ _,H5⟩
  have r0:rI (nth a i) 0=k:=congrArg (fun r=>rI r 0) hn
  have r1:rI (nth a i) 1=k+1:=congrArg (fun r=>rI r 1) hn
  have r2:rI (nth a i) 2=k+1+1:=congrArg (fun r=>rI r 2) hn
  have w0:nL (k+1)=k+1:=nF (by omega) (by omega)
  have w1:nL (k+1+1)=k+1+1:=nF (by omega) (by omega)
  have w2:nL (k+1+1+1)=k+1+1+1:=nF (by omega) (by omega)
  have hz:¬k+1+1+1+1*((rR (nth a i) 3).length:Int)<0:=by omega
  simp only[yS,oU h,nR h,ou h hl,J6,ng,nr,aj,hh,rU,hz,w0,w1,w2,r0,r1,r2,bne_self_eq_false,beq_self_eq_true,Bool.not_true,decide_false,aQ,sP]
 ·intro n k
  rw[Ul]
  simp only[yS,nQ,aQ]
theorem nzV {a:Rows} (h:nbH a=true) {k:Int} (h0:0≤k) (h1:k≤600000000000000):y9 sP Th a k=true∧ng4 (S4 sP a k).1 k=true∧(S4 sP (S4 sP a k).1 k).2=(S4 sP a k).2∧k≤(S4 sP a k).2∧(S4 sP a k).2≤k+281475110928384:=by
 obtain⟨h2,h3,h4⟩:=nrJ h h0 h1
 have hl:∀r k,(rR (sP r k).1 3).length=(rR r 3).length:=fun r k=>qq sn 1 _ _
 have hf:∀r k,sP (sP r k).1 k=sP r k:=by
  intro r k
  have e:=hl r k
  unfold sP at e ⊢
  simp only[e]
 have hg:∀r k,Th (sP r k).1 k=Th r k:=by
  intro r k
  simp only[Th,PC,sm,hl]
 obtain⟨t1,t2⟩:=noP hf hg a k
 refine⟨h2, ?_,by rw[t1],h3,h4⟩
 simp only[ng4,t1,t2,h2,pQ,Bool.and_self]
def y3 (Y:Int→Rows→α) (ov:Int→Int→Rows→α) (rV i:Int) (NI:Rows):α:=
 let z0:Rows:=List.set NI (Int.toNat i) (bX (nth NI (Int.toNat i)) 0 [.int rV])
 let z1:Rows:=List.set z0 (Int.toNat i) (bX (nth z0 (Int.toNat i)) 1 [.int (nL (rV+1))])
 let z2:List DC:=nth z1 (Int.toNat i)
 let z3:Rows:=rR z2 2
 let z4:Int:=nL ((nL (rV+1))+1)
 let z5:Int×Rows:=sH z3 z4
 bif decide (i<len NI) then
  bif Ed (Ed true (idx i NI)) (inl (Int.toNat i) NI) then
   bif Ed (Ed true (idx i z0)) (inl (Int.toNat i) z0) then
    bif Ed (Ed (Ed true (idx i z1)) (inl (Int.toNat i) z1)) (PC 1 z3 z4) then
     ov z5.1 (nL (i+1)) (List.set z1 (Int.toNat i) (bX z2 2 [.sl z5.2]))
    else kf
   else kf
  else kf
 else Y rV NI
def yZ (Y:Int→Rows→α) (N m_:Nat):Int→Int→Rows→α:=
 Nat.rec (motive:=fun _=>Int→Int→Rows→α) (fun _ _ _=>kf) (fun _ ov=>y3 kf Y ov) m_
theorem Uy (Y:Int→Rows→α) (N m_:Nat):yZ kf Y N (m_+1)=y3 kf Y (yZ kf Y N m_):=rfl
def RH (kf:α) (Y:Int→Rows→α) (l0:Int→Int→Rows→α) (a:Rows) (k:Int):α:=
 l0 k 0 a
def naG (Y:Int→Rows→α) (N:Nat) (a:Rows) (k:Int):α:=RH kf Y (yZ kf Y N N) a k
def sQ (r:List DC) (k:Int):List DC×Int:=([.int (k),.int (k+1),.sl (vL sn 1 (rR r 2).length (k+1+1))],k+1+1+1*(rR r 2).length)
def Ti (r:List DC) (k:Int):Bool:=PC 1 (rR r 2) (k+1+1)
def Nq (a:Rows) (k:Int):Int×Rows:=((S4 sQ a k).2,(S4 sQ a k).1)
theorem nn8 (Y:Int→Rows→α) (a:Rows) (k:Int) (qA:G5 (.sl [.i,.i,.sl [.i]]) (.sl a)) (aP:y9 sQ Ti a k=true):∃N,naG kf Y N a k=Y (Nq a k).1 (Nq a k).2:=by
 obtain⟨hl,hw⟩:=oG qA
 refine⟨a.length+1, ?_⟩
 unfold naG RH Nq
 refine nxX a k sQ Ti (yZ kf Y (a.length+1)) Y aP ?_ ?_
 ·intro n i k b h hb hn hg
  rw[Uy]
  have hr:=O4 (hw (nth a i) (sr h))
  have hk: -1*3≤k:=by have:=(WA hg).2.1;omega
  rw[←hn] at hg hr ⊢
  have mi:i<b.length:=by omega
  generalize MI:nth b i=r at*
  match r,hr with
  | [a0,a1,a2],_=>
   have H5:PC 1 (DC.cV a2) (k+1+1)=true:=hg
   obtain⟨g1,g2,g3⟩:=WA H5
   have rr:∀x0 x1 x2:DC,rR [x0,x1,x2] 2=DC.cV x2:=fun _ _ _=>rfl
   have s0:∀x0 x1 x2 v:DC,bX [x0,x1,x2] 0 [v]=[v,x1,x2]:=fun _ _ _ _=>rfl
   have s1:∀x0 x1 x2 v:DC,bX [x0,x1,x2] 1 [v]=[x0,v,x2]:=fun _ _ _ _=>rfl
   have s2:∀x0 x1 x2 v:DC,bX [x0,x1,x2] 2 [v]=[x0,x1,v]:=fun _ _ _ _=>rfl
   have w0:nL (k+1)=k+1:=nF (by omega) (by omega)
   have w1:nL (k+1+1)=k+1+1:=nF (by omega) (by omega)
   simp only[y3,oU mi,nR mi,sq mi,ou h hl,J6,ng,nr,aj,MI,w0,w1,nxM,nxT,List.set_set,na9 mi,s0,s1,s2,rr,sH,H5,sQ]
 ·intro n k b hb
  rw[Uy]
  simp only[y3,←hb,nQ,aQ]
def QE (a:Rows):Bool:=sm a && a.all (fun r=>sm (rR r 2))
theorem nrK {a:Rows} (h:QE a=true) {k:Int} (h0:0≤k) (h1:k≤600000000000000):y9 sQ Ti a k=true∧k≤(Nq a k).1∧(Nq a k).1≤k+281475110928384:=by
 simp only[QE,aw,List.all_eq_true] at h
 have hl:=uy h.1
 obtain⟨h2,h3,h4⟩:=noO (f:=sQ) (g:=Ti) (B:=1125899906842000) (C:=16777224) (by omega) a k (fun r hr k k0 k1=>by
  have hs:=uy (h.2 r hr)
  refine⟨zA (h.2 r hr) (by omega) (by omega), ?_, ?_⟩
  ·show k≤k+1+1+1*((rR r 2).length:Int)
   omega
  ·show k+1+1+1*((rR r 2).length:Int)≤k+16777224
   omega) h0 (by omega)
 exact⟨h2,h3,by show (S4 sQ a k).2≤_;omega⟩
def yU (Y:Int→α) (a:Rows) (ov:Int→Int→α) (rV i:Int):α:=
 let z0:Int:=nL ((nL (rV+1))+1)
 let z1:Int:=rU (rR (nth a (Int.toNat i)) 2) z0
 bif decide (i<len a) then
  bif Ed true (idx i a) then
   bif (rI (nth a (Int.toNat i)) 0) != rV then Y (-1)
   else bif Ed true (idx i a) then
     bif (rI (nth a (Int.toNat i)) 1) != (nL (rV+1)) then Y (-1)
     else bif Ed (Ed true (idx i a)) (QW sn 1 (rR (nth a (Int.toNat i)) 2) z0) then
       bif decide (z1<0) then Y (-1)
       else ov z1 (nL (i+1))
      else kf
    else kf
  else kf
 else Y rV
def yT (Y:Int→α) (N:Nat) (a:Rows) (m_:Nat):Int→Int→α:=
 Nat.rec (motive:=fun _=>Int→Int→α) (fun _ _=>kf) (fun _ ov=>yU kf Y a ov) m_
theorem Up (Y:Int→α) (N:Nat) (a:Rows) (m_:Nat):yT kf Y N a (m_+1)=yU kf Y a (yT kf Y N a m_):=rfl
def Ry (kf:α) (Y:Int→α) (l0:Int→Int→α) (a:Rows) (k:Int):α:=
 l0 k 0
def naq (Y:Int→α) (N:Nat) (a:Rows) (k:Int):α:=Ry kf Y (yT kf Y N a N) a k
def ng5 (a:Rows) (k:Int):Bool:=same a (S4 sQ a k).1 && y9 sQ Ti a k
def Zl (a:Rows) (k:Int):Int:=(S4 sQ a k).2
theorem nnV (Y:Int→α) (a:Rows) (k:Int) (qA:G5 (.sl [.i,.i,.sl [.i]]) (.sl a)) (aP:ng5 a k=true):∃N,naq kf Y N a k=Y (Zl a k):=by
 obtain⟨hl,hw⟩:=oG qA
 simp only[ng5,aw] at aP
 refine⟨a.length+1, ?_⟩
 unfold naq Ry Zl
 refine nxL a k sQ Ti (yT kf Y (a.length+1) a) Y aP.2 (sf aP.1) ?_ ?_
 ·intro n i k h hn hg
  rw[Up]
  have H5:PC 1 (rR (nth a i) 2) (k+1+1)=true:=hg
  obtain⟨g1,g2,g3⟩:=WA H5
  have e:rR (nth a i) 2=vL sn 1 (rR (nth a i) 2).length (k+1+1):=congrArg (fun r=>rR r 2) hn
  have hh:QW sn 1 (rR (nth a i) 2) (k+1+1)=true:=by
   simp only[QW,aw]
   exact⟨by rw[←e];exact pQ _,H5⟩
  have r0:rI (nth a i) 0=k:=congrArg (fun r=>rI r 0) hn
  have r1:rI (nth a i) 1=k+1:=congrArg (fun r=>rI r 1) hn
  have w0:nL (k+1)=k+1:=nF (by omega) (by omega)
  have w1:nL (k+1+1)=k+1+1:=nF (by omega) (by omega)
  have hz:¬k+1+1+1*((rR (nth a i) 2).length:Int)<0:=by omega
  simp only[yU,oU h,nR h,ou h hl,J6,ng,nr,aj,hh,rU,hz,w0,w1,r0,r1,bne_self_eq_false,beq_self_eq_true,Bool.not_true,decide_false,aQ,sQ]
 ·intro n k
  rw[Up]
  simp only[yU,nQ,aQ]
theorem nzW {a:Rows} (h:QE a=true) {k:Int} (h0:0≤k) (h1:k≤600000000000000):y9 sQ Ti a k=true∧ng5 (S4 sQ a k).1 k=true∧(S4 sQ (S4 sQ a k).1 k).2=(S4 sQ a k).2∧k≤(S4 sQ a k).2∧(S4 sQ a k).2≤k+281475110928384:=by
 obtain⟨h2,h3,h4⟩:=nrK h h0 h1
 have hl:∀r k,(rR (sQ r k).1 2).length=(rR r 2).length:=fun r k=>qq sn 1 _ _
 have hf:∀r k,sQ (sQ r k).1 k=sQ r k:=by
  intro r k
  have e:=hl r k
  unfold sQ at e ⊢
  simp only[e]
 have hg:∀r k,Ti (sQ r k).1 k=Ti r k:=by
  intro r k
  simp only[Ti,PC,sm,hl]
 obtain⟨t1,t2⟩:=noP hf hg a k
 refine⟨h2, ?_,by rw[t1],h3,h4⟩
 simp only[ng5,t1,t2,h2,pQ,Bool.and_self]
def WE:List FK:=[.i,.i,.i,.i,.b,.b]
def PL:Int→List DC:=fkF WE
def PB (a:Rows) (k:Int):Int×Rows:=(k+6*a.length,vL PL 6 a.length k)
theorem nj8 (Y:Int→Rows→α) (a:Rows) (k:Int) (qA:G5 (.sl [.i,.i,.i,.i,.bool,.bool]) (.sl a)) (aP:PC 6 a k=true):∃N,noN WE kf Y N a k=Y (PB a k).1 (PB a k).2:=by
 obtain⟨hl,hw⟩:=oG qA
 exact nzh WE 6 (by rfl) (by decide) kf Y a k hl (fun r hr=>O4 (hw r hr)) aP
def SN (a:Rows) (k:Int):Int:=k+6*a.length
theorem njX (Y:Int→α) (a:Rows) (k:Int) (qA:G5 (.sl [.i,.i,.i,.i,.bool,.bool]) (.sl a)) (aP:QW PL 6 a k=true):∃N,nm6 WE kf Y N a k=Y (SN a k):=by
 exact nzc WE 6 (by rfl) (by decide) kf Y a k (oG qA).1 aP
def nkj:List FK:=[.i,.i,.i,.i,.i,.i,.i,.i,.i]
def nbx:Int→List DC:=fkF nkj
def Pz (a:Rows) (k:Int):Int×Rows:=(k+9*a.length,vL nbx 9 a.length k)
theorem nn6 (Y:Int→Rows→α) (a:Rows) (k:Int) (qA:G5 (.sl [.i,.i,.i,.i,.i,.i,.i,.i,.i]) (.sl a)) (aP:PC 9 a k=true):∃N,noN nkj kf Y N a k=Y (Pz a k).1 (Pz a k).2:=by
 obtain⟨hl,hw⟩:=oG qA
 exact nzh nkj 9 (by rfl) (by decide) kf Y a k hl (fun r hr=>O4 (hw r hr)) aP
def Rf (a:Rows) (k:Int):Int:=k+9*a.length
theorem nnT (Y:Int→α) (a:Rows) (k:Int) (qA:G5 (.sl [.i,.i,.i,.i,.i,.i,.i,.i,.i]) (.sl a)) (aP:QW nbx 9 a k=true):∃N,nm6 nkj kf Y N a k=Y (Rf a k):=by
 exact nzc nkj 9 (by rfl) (by decide) kf Y a k (oG qA).1 aP
def R1:List FK:=[.i,.i,.i,.b]
def zJ:Int→List DC:=fkF R1
def Nm (a:Rows) (k:Int):Int×Rows:=(k+4*a.length,vL zJ 4 a.length k)
theorem nht (Y:Int→Rows→α) (a:Rows) (k:Int) (qA:G5 (.sl [.i,.i,.i,.bool]) (.sl a)) (aP:PC 4 a k=true):∃N,noN R1 kf Y N a k=Y (Nm a k).1 (Nm a k).2:=by
 obtain⟨hl,hw⟩:=oG qA
 exact nzh R1 4 (by rfl) (by decide) kf Y a k hl (fun r hr=>O4 (hw r hr)) aP
def PO (a:Rows) (k:Int):Int:=k+4*a.length
theorem nhj (Y:Int→α) (a:Rows) (k:Int) (qA:G5 (.sl [.i,.i,.i,.bool]) (.sl a)) (aP:QW zJ 4 a k=true):∃N,nm6 R1 kf Y N a k=Y (PO a k):=by
 exact nzc R1 4 (by rfl) (by decide) kf Y a k (oG qA).1 aP
def Vy (Y:Bool→α) (n low high:Int):α:=
 Y (bif decide (low≤n) then decide (n≤high) else false)
def nf (n low high:Int):Bool:=Vy id n low high
theorem ne5 (Y:Bool→α) (n low high:Int):Vy Y n low high=Y (nf n low high):=by
 rfl
def Qn (Y:Bool→α) (n:Int) (l:Rows) (oy:Int) (ov:Int→α) (oD:Int):α:=
 bif decide (oD<oy) then
  bif Ed true (idx oD l) then
   bif (rI (nth l (Int.toNat oD)) 0)==n then Y true
   else ov (nL (oD+1))
  else kf
 else Y false
def Qm (Y:Bool→α) (N:Nat) (n:Int) (l:Rows) (oy:Int) (m_:Nat):Int→α:=
 Nat.rec (motive:=fun _=>Int→α) (fun _=>kf) (fun _ ov=>Qn kf Y n l oy ov) m_
theorem ZM (Y:Bool→α) (N:Nat) (n:Int) (l:Rows) (oy:Int) (m_:Nat):Qm kf Y N n l oy (m_+1)=Qn kf Y n l oy (Qm kf Y N n l oy m_):=rfl
def YM (kf:α) (Y:Bool→α) (l0:Int→Int→α) (l:Rows) (n:Int):α:=
 l0 (len l) 0
def nh8 (Y:Bool→α) (N:Nat) (l:Rows) (n:Int):α:=YM kf Y (fun oy=>Qm kf Y N n l oy N) l n
def nm5 (l:Rows) (n:Int):Bool:=q_ (fun _ r=>(rI r 0)==n) l 0
theorem nvv (Y:Bool→α) (l:Rows) (n:Int) (h_l:G5 (.sl [.i]) (.sl l)):∃N,nh8 kf Y N l n=Y (nm5 l n):=by
 obtain⟨hl,_⟩:=oG h_l
 refine⟨l.length+1, ?_⟩
 unfold nh8 YM
 refine (rQ l (Qm kf Y (l.length+1) n l (len l)) (fun i r c=>bif (rI r 0)==n then Y true else c) (Y false) ?_ ?_).trans ?_
 ·intro n i h
  rw[ZM]
  simp only[Qn,oU h,nR h,ou h hl,J6,ng,nr,aj]
 ·intro n
  rw[ZM]
  simp only[Qn,nQ,aQ]
 ·exact (xe (fun _ r=>(rI r 0)==n) (Y true) (Y false) l 0).trans (by unfold nm5;cases q_ (fun _ r=>(rI r 0)==n) l 0<;>rfl)
def QV (Y:Bool→α) (Z:Rows) (k:Int) (ov:Int→α) (i:Int):α:=
 bif decide (i<len Z) then
  bif Ed true (idx i Z) then
   bif (rI (nth Z (Int.toNat i)) 0)==k then Y true
   else ov (nL (i+1))
  else kf
 else Y false
def QU (Y:Bool→α) (N:Nat) (Z:Rows) (k:Int) (m_:Nat):Int→α:=
 Nat.rec (motive:=fun _=>Int→α) (fun _=>kf) (fun _ ov=>QV kf Y Z k ov) m_
theorem nbp (Y:Bool→α) (N:Nat) (Z:Rows) (k:Int) (m_:Nat):QU kf Y N Z k (m_+1)=QV kf Y Z k (QU kf Y N Z k m_):=rfl
def Ze (kf:α) (Y:Bool→α) (l0:Int→α) (Z:Rows) (k:Int):α:=
 l0 0
def ni3 (Y:Bool→α) (N:Nat) (Z:Rows) (k:Int):α:=Ze kf Y (QU kf Y N Z k N) Z k
theorem nwt (Y:Bool→α) (Z:Rows) (k:Int) (qh:G5 (.sl [.i]) (.sl Z)):∃N,ni3 kf Y N Z k=Y (nm5 Z k):=by
 obtain⟨hl,_⟩:=oG qh
 refine⟨Z.length+1, ?_⟩
 unfold ni3 Ze
 refine (rQ Z (QU kf Y (Z.length+1) Z k) (fun i r c=>bif (rI r 0)==k then Y true else c) (Y false) ?_ ?_).trans ?_
 ·intro n i h
  rw[nbp]
  simp only[QV,oU h,nR h,ou h hl,J6,ng,nr,aj]
 ·intro n
  rw[nbp]
  simp only[QV,nQ,aQ]
 ·exact (xe (fun _ r=>(rI r 0)==k) (Y true) (Y false) Z 0).trans (by unfold nm5;cases q_ (fun _ r=>(rI r 0)==k) Z 0<;>rfl)
def zN (Y:Bool→α) (x:Rows) (oy yC:Int) (wU:Rows) (ov:Int→α) (oD:Int):α:=
 let z0:Bool:= !(nf (rI (nth x (Int.toNat oD)) 0) 0 4095)
 bif decide (oD<oy) then
  bif Ed true (idx oD x) then
   bif L0 z0 true (L0 (decide (0<oD)) (Ed true (idx (nL (oD - 1)) wU)) true) then
    bif bif z0 then true else bif decide (0<oD) then decide (rI (nth x (Int.toNat oD)) 0≤rI (nth wU (Int.toNat (nL (oD - 1)))) 0) else false then Y false
    else ov (nL (oD+1))
   else kf
  else kf
 else Y (bif nf yC 0 281474976710654 then decide (len wU≤8) else false)
def zM (Y:Bool→α) (N:Nat) (x:Rows) (oy yC:Int) (wU:Rows) (m_:Nat):Int→α:=
 Nat.rec (motive:=fun _=>Int→α) (fun _=>kf) (fun _ ov=>zN kf Y x oy yC wU ov) m_
theorem U_ (Y:Bool→α) (N:Nat) (x:Rows) (oy yC:Int) (wU:Rows) (m_:Nat):zM kf Y N x oy yC wU (m_+1)=zN kf Y x oy yC wU (zM kf Y N x oy yC wU m_):=rfl
def Tl (kf:α) (Y:Bool→α) (l0:Rows→Int→Int→Rows→Int→α) (f:nE):α:=
 l0 f.pV (len f.pV) f.Mac f.pV 0
def nb2 (Y:Bool→α) (N:Nat) (f:nE):α:=Tl kf Y (fun x oy yC wU=>zM kf Y N x oy yC wU N) f
def vh (f:nE):Bool:=bif q_ (fun i r=>bif !(nf (rI r 0) 0 4095) then true else bif decide ((0:Int)<(i:Int)) then decide (rI r 0≤rI (nth f.pV (Int.toNat (nL ((i:Int) - 1)))) 0) else false) f.pV 0 then false else bif nf f.Mac 0 281474976710654 then decide (len f.pV≤8) else false
theorem np3 (Y:Bool→α) (f:nE) (h_f:kd nE.ct f.enc):∃N,nb2 kf Y N f=Y (vh f):=by
 obtain⟨hl,_⟩:=oG (nE.nvf h_f)
 refine⟨f.pV.length+1, ?_⟩
 unfold nb2 Tl
 refine (rQ f.pV (zM kf Y (f.pV.length+1) f.pV (len f.pV) f.Mac f.pV) (fun i r c=>bif bif !(nf (rI r 0) 0 4095) then true else bif decide ((0:Int)<(i:Int)) then decide (rI r 0≤rI (nth f.pV (Int.toNat (nL ((i:Int) - 1)))) 0) else false then Y false else c) (Y (bif nf f.Mac 0 281474976710654 then decide (len f.pV≤8) else false)) ?_ ?_).trans ?_
 ·intro n i h
  have hp:decide ((0:Int)<(i:Int))=true→idx (nL ((i:Int) - 1)) f.pV=true:=by
   intro h0
   have h0:=of_decide_eq_true h0
   rw[nF (by omega) (by omega),show (i:Int) - 1=((i - 1:Nat):Int) by omega]
   exact nR (by omega)
  rw[U_]
  simp only[zN,oU h,nR h,ou h hl,J6,ng,nr,aj]
  exact nzK (xt (fun _=>rfl) (fun _=>xt (fun h0=>hp h0) (fun _=>rfl)))
 ·intro n
  rw[U_]
  simp only[zN,nQ,aQ]
 ·refine (xe (fun i r=>bif !(nf (rI r 0) 0 4095) then true else bif decide ((0:Int)<(i:Int)) then decide (rI r 0≤rI (nth f.pV (Int.toNat (nL ((i:Int) - 1)))) 0) else false) _ _ f.pV 0).trans ?_
  exact J9 rfl rfl
def Nx (Y:Bool→α) (yC:Int) (wU:Rows) (ov:Int→α) (k:Int):α:=
 let z0:Bool:= !(nf (rI (nth wU (Int.toNat k)) 0) 0 4095)
 bif decide (k<len wU) then
  bif L0 z0 (Ed true (idx k wU)) (L0 (decide (0<k)) (Ed (Ed (Ed true (idx k wU)) (idx k wU)) (idx (nL (k - 1)) wU)) (Ed true (idx k wU))) then
   bif bif z0 then true else bif decide (0<k) then decide (rI (nth wU (Int.toNat k)) 0≤rI (nth wU (Int.toNat (nL (k - 1)))) 0) else false then Y false
   else ov (nL (k+1))
  else kf
 else Y (bif nf yC 0 281474976710654 then decide (len wU≤8) else false)
def Nw (Y:Bool→α) (N:Nat) (yC:Int) (wU:Rows) (m_:Nat):Int→α:=
 Nat.rec (motive:=fun _=>Int→α) (fun _=>kf) (fun _ ov=>Nx kf Y yC wU ov) m_
theorem WI (Y:Bool→α) (N:Nat) (yC:Int) (wU:Rows) (m_:Nat):Nw kf Y N yC wU (m_+1)=Nx kf Y yC wU (Nw kf Y N yC wU m_):=rfl
def TN (kf:α) (Y:Bool→α) (l0:Int→Rows→Int→α) (f:nE):α:=
 l0 f.Mac f.pV 0
def ndI (Y:Bool→α) (N:Nat) (f:nE):α:=TN kf Y (fun yC wU=>Nw kf Y N yC wU N) f
theorem nrV (Y:Bool→α) (f:nE) (h_f:kd nE.ct f.enc):∃N,ndI kf Y N f=Y (vh f):=by
 obtain⟨hl,_⟩:=oG (nE.nvf h_f)
 refine⟨f.pV.length+1, ?_⟩
 unfold ndI TN
 refine (rQ f.pV (Nw kf Y (f.pV.length+1) f.Mac f.pV) (fun i r c=>bif bif !(nf (rI r 0) 0 4095) then true else bif decide ((0:Int)<(i:Int)) then decide (rI r 0≤rI (nth f.pV (Int.toNat (nL ((i:Int) - 1)))) 0) else false then Y false else c) (Y (bif nf f.Mac 0 281474976710654 then decide (len f.pV≤8) else false)) ?_ ?_).trans ?_
 ·intro n i h
  have hp:decide ((0:Int)<(i:Int))=true→idx (nL ((i:Int) - 1)) f.pV=true:=by
   intro h0
   have h0:=of_decide_eq_true h0
   rw[nF (by omega) (by omega),show (i:Int) - 1=((i - 1:Nat):Int) by omega]
   exact nR (by omega)
  rw[WI]
  simp only[Nx,oU h,nR h,ou h hl,J6,ng,nr,aj]
  exact nzK (xt (fun _=>rfl) (fun _=>xt (fun h0=>hp h0) (fun _=>rfl)))
 ·intro n
  rw[WI]
  simp only[Nx,nQ,aQ]
 ·refine (xe (fun i r=>bif !(nf (rI r 0) 0 4095) then true else bif decide ((0:Int)<(i:Int)) then decide (rI r 0≤rI (nth f.pV (Int.toNat (nL ((i:Int) - 1)))) 0) else false) _ _ f.pV 0).trans ?_
  exact J9 rfl rfl
def xm (Y:Bool→α) (g:nz):α:=
 bif bif !(nf g.om 0 65535) then true else bif !(nf g.n9 0 65535) then true else decide (320<len g.Body) then Y false
 else bif g.Kind==6 then Y (bif nf g.Seq 0 4294967295 then bif nf g.Ack 0 4294967295 then bif nf g.Flags 0 31 then nf g.sw 0 65535 else false else false else false)
 else bif g.Kind==17 then Y (bif g.Seq==0 then bif g.Ack==0 then bif g.Flags==0 then g.sw==0 else false else false else false)
 else Y false
def sk (g:nz):Bool:=xm id g
theorem nnj (Y:Bool→α) (g:nz):xm Y g=Y (sk g):=by
 exact J9 rfl (J9 rfl (J9 rfl rfl))
def nbn (Y:Bool→α) (g:nz):α:=
 bif bif !(nf g.om 0 65535) then true else bif !(nf g.n9 0 65535) then true else decide (320<len g.Body) then Y false
 else bif g.Kind==17 then Y (bif g.Seq==0 then bif g.Ack==0 then bif g.Flags==0 then g.sw==0 else false else false else false)
 else Y (bif g.Kind==6 then bif nf g.Seq 0 4294967295 then bif nf g.Ack 0 4294967295 then bif nf g.Flags 0 31 then nf g.sw 0 65535 else false else false else false else false)
theorem no8 (Y:Bool→α) (g:nz):nbn Y g=Y (sk g):=by
 unfold nbn sk xm
 refine J9 rfl ?_
 by_cases h6:g.Kind=6
 ·have h17:(g.Kind==17)=false:=by rw[h6];rfl
  have h6':(g.Kind==6)=true:=by rw[h6];rfl
  rw[h17,h6']
  rfl
 ·have h6':(g.Kind==6)=false:=by simpa using h6
  rw[h6']
  cases (g.Kind==17)<;>rfl
def ZS (Y:Bool→α) (flags:Int):α:=
 Y (bif (bits .and .i64 flags 16) != 0 then (bits .andNot .i64 flags 25)==0 else false)
def NH (flags:Int):Bool:=ZS id flags
theorem nnw (Y:Bool→α) (flags:Int):ZS Y flags=Y (NH flags):=by
 rfl
def xo (Y:Bool→α) (p:nj):α:=
 Y (bif nf p.sK 0 281474976710655 then bif nf p.sW 0 281474976710655 then bif nf p.rO (-1) 4095 then bif nf p.Tos 0 255 then bif nf p.Ttl 0 255 then bif nf p.Id 0 65535 then bif nf p.o_ 0 4294967295 then bif nf p.qm 0 4294967295 then bif sk p.pG then bif decide (len p.pG.Body≤128) then true else bif p.pG.Kind==6 then NH p.pG.Flags else false else false else false else false else false else false else false else false else false else false)
def qH (p:nj):Bool:=xo id p
theorem ns_ (Y:Bool→α) (p:nj):xo Y p=Y (qH p):=by
 rfl
def ngk (Y:Bool→α) (p:nj):α:=
 bif bif !(nf p.sK 0 281474976710655) then true else bif !(nf p.sW 0 281474976710655) then true else bif !(nf p.rO (-1) 4095) then true else bif !(nf p.Tos 0 255) then true else bif !(nf p.Ttl 0 255) then true else bif !(nf p.Id 0 65535) then true else bif !(nf p.o_ 0 4294967295) then true else bif !(nf p.qm 0 4294967295) then true else !(sk p.pG) then Y false
 else Y (bif bif p.pG.Kind==6 then (bits .andNot .i64 p.pG.Flags 9)==16 else false then true else decide (len p.pG.Body≤128))
theorem nmT {f:Int} (h:nf f 0 31=true):((bits .andNot .i64 f 9)==16)=NH f:=by
 have key:∀n:Fin 32,((bits .andNot .i64 ((n.val:Nat):Int) 9)==16)=NH ((n.val:Nat):Int):=by decide+kernel
 have h0:0≤f∧f≤31:=by
  unfold nf Vy at h
  by_cases h1:0≤f
  ·by_cases h2:f≤31
   ·exact⟨h1,h2⟩
   ·simp [h1,h2] at h
  ·simp [h1] at h
 have:=key ⟨f.toNat,by omega⟩
 simp only at this
 rw[show ((f.toNat:Nat):Int)=f by omega] at this
 exact this
theorem nwJ {g:nz} (h:sk g=true) (h6:(g.Kind==6)=true):nf g.Flags 0 31=true:=by
 unfold sk xm at h
 rw[h6] at h
 cases hb:nf g.Flags 0 31
 ·rw[hb] at h
  revert h
  cases (bif !(nf g.om 0 65535) then true else bif !(nf g.n9 0 65535) then true else decide (320<len g.Body))<;>cases nf g.Seq 0 4294967295<;>cases nf g.Ack 0 4294967295<;>simp
 ·rfl
theorem nuH (Y:Bool→α) (p:nj):ngk Y p=Y (qH p):=by
 unfold ngk qH xo
 cases nf p.sK 0 281474976710655
 ·rfl
 cases nf p.sW 0 281474976710655
 ·rfl
 cases nf p.rO (-1) 4095
 ·rfl
 cases nf p.Tos 0 255
 ·rfl
 cases nf p.Ttl 0 255
 ·rfl
 cases nf p.Id 0 65535
 ·rfl
 cases nf p.o_ 0 4294967295
 ·rfl
 cases nf p.qm 0 4294967295
 ·rfl
 cases hs:sk p.pG
 ·rfl
 cases h6:(p.pG.Kind==6)
 ·cases decide (len p.pG.Body≤128)<;>rfl
 ·rw[nmT (nwJ hs h6)]
  cases NH p.pG.Flags<;>cases decide (len p.pG.Body≤128)<;>rfl
def w6 (Y:Int→α) (O oP:Int) (Z:Rows) (oy:Int) (ov:Int→α) (oD:Int):α:=
 bif decide (oD<oy) then
  bif Ed true (idx oD Z) then
   bif bif (rI (nth Z (Int.toNat oD)) 0)==O then (rI (nth Z (Int.toNat oD)) 1)==oP else false then Y oD
   else ov (nL (oD+1))
  else kf
 else Y (-1)
def wZ (Y:Int→α) (N:Nat) (O oP:Int) (Z:Rows) (oy:Int) (m_:Nat):Int→α:=
 Nat.rec (motive:=fun _=>Int→α) (fun _=>kf) (fun _ ov=>w6 kf Y O oP Z oy ov) m_
theorem QY (Y:Int→α) (N:Nat) (O oP:Int) (Z:Rows) (oy:Int) (m_:Nat):wZ kf Y N O oP Z oy (m_+1)=w6 kf Y O oP Z oy (wZ kf Y N O oP Z oy m_):=rfl
def O9 (kf:α) (Y:Int→α) (l0:Int→Int→α) (Z:Rows) (O oP:Int):α:=
 l0 (len Z) 0
def VI (Y:Int→α) (N:Nat) (Z:Rows) (O oP:Int):α:=O9 kf Y (fun oy=>wZ kf Y N O oP Z oy N) Z O oP
def tQ (Z:Rows) (O oP:Int):Int:=findIdx (fun _ r=>bif (rI r 0)==O then (rI r 1)==oP else false) Z 0
theorem njF (Y:Int→α) (Z:Rows) (O oP:Int) (qh:G5 (.sl [.i,.i,.i,.bool]) (.sl Z)):∃N,VI kf Y N Z O oP=Y (tQ Z O oP):=by
 obtain⟨hl,_⟩:=oG qh
 refine⟨Z.length+1, ?_⟩
 unfold VI O9
 refine (rQ Z (wZ kf Y (Z.length+1) O oP Z (len Z)) (fun i r c=>bif bif (rI r 0)==O then (rI r 1)==oP else false then Y (i:Int) else c) (Y (-1)) ?_ ?_).trans ?_
 ·intro n i h
  rw[QY]
  simp only[w6,oU h,nR h,ou h hl,J6,ng,nr,aj]
 ·intro n
  rw[QY]
  simp only[w6,nQ,aQ]
 ·exact nbz (fun i r=>bif (rI r 0)==O then (rI r 1)==oP else false) Y Z 0
def xL (Y:Bool→α) (Z x:Rows) (oy:Int) (ov:Int→α) (oD:Int):α:=
 bif decide (oD<oy) then
  bif Ed true (idx oD x) then
   bif bif !(nf (rI (nth x (Int.toNat oD)) 0) 0 7) then true else bif !(nf (rI (nth x (Int.toNat oD)) 1) 0 1023) then true else bif !(nf (rI (nth x (Int.toNat oD)) 2) 0 63) then true else (tQ Z (rI (nth x (Int.toNat oD)) 0) (rI (nth x (Int.toNat oD)) 1)) != oD then Y false
   else ov (nL (oD+1))
  else kf
 else Y (decide (len Z≤96))
def xK (Y:Bool→α) (N:Nat) (Z x:Rows) (oy:Int) (m_:Nat):Int→α:=
 Nat.rec (motive:=fun _=>Int→α) (fun _=>kf) (fun _ ov=>xL kf Y Z x oy ov) m_
theorem SP (Y:Bool→α) (N:Nat) (Z x:Rows) (oy:Int) (m_:Nat):xK kf Y N Z x oy (m_+1)=xL kf Y Z x oy (xK kf Y N Z x oy m_):=rfl
def Qb (kf:α) (Y:Bool→α) (l0:Rows→Int→Int→α) (Z:Rows):α:=
 l0 Z (len Z) 0
def Xr (Y:Bool→α) (N:Nat) (Z:Rows):α:=Qb kf Y (fun x oy=>xK kf Y N Z x oy N) Z
def x9 (r:List DC):Bool:=bif !(nf (rI r 0) 0 7) then true else bif !(nf (rI r 1) 0 1023) then true else !(nf (rI r 2) 0 63)
def pf (Z:Rows):Bool:=bif decide (96<len Z) then false else bif q_ (fun i r=>bif x9 r then true else zh (fun j=>bif (rI (nth Z j) 0)==(rI r 0) then (rI (nth Z j) 1)==(rI r 1) else false) i 0) Z 0 then false else true
theorem nk4 (Y:Bool→α) (Z:Rows) (qh:G5 (.sl [.i,.i,.i,.bool]) (.sl Z)):∃N,Xr kf Y N Z=Y (pf Z):=by
 obtain⟨hl,_⟩:=oG qh
 refine⟨Z.length+1, ?_⟩
 unfold Xr Qb
 refine (rQ Z (xK kf Y (Z.length+1) Z Z (len Z)) (fun i r c=>bif (bif x9 r then true else (tQ Z (rI r 0) (rI r 1)) != (i:Int)) then Y false else c) (Y (decide (len Z≤96))) ?_ ?_).trans ?_
 ·intro n i h
  rw[SP]
  simp only[xL,oU h,nR h,ou h hl,J6,ng,nr,aj]
  unfold x9
  cases nf (rI (nth Z i) 0) 0 7<;>cases nf (rI (nth Z i) 1) 0 1023<;>cases nf (rI (nth Z i) 2) 0 63<;>rfl
 ·intro n
  rw[SP]
  simp only[xL,nQ,aQ]
 ·refine (xe (fun i r=>bif x9 r then true else (tQ Z (rI r 0) (rI r 1)) != (i:Int)) _ _ Z 0).trans ?_
  have e:q_ (fun i r=>bif x9 r then true else (tQ Z (rI r 0) (rI r 1)) != (i:Int)) Z 0=q_ (fun i r=>bif x9 r then true else zh (fun j=>bif (rI (nth Z j) 0)==(rI r 0) then (rI (nth Z j) 1)==(rI r 1) else false) i 0) Z 0:=by
   apply nkS
   intro i hi
   rw[Nat.zero_add]
   have hf:=nja (fun _ r=>bif (rI r 0)==(rI (nth Z i) 0) then (rI r 1)==(rI (nth Z i) 1) else false) Z 0 i hi (by simp)
   rw[Nat.zero_add] at hf
   have hf:((tQ Z (rI (nth Z i) 0) (rI (nth Z i) 1)) != (i:Int))=_:=hf
   rw[hf]
  rw[e]
  unfold pf
  by_cases h9:96<len Z
  ·simp only[Lu h9,aj,show decide (len Z≤96)=false from Lt (by omega)]
   cases q_ (fun i r=>bif x9 r then true else zh (fun j=>bif (rI (nth Z j) 0)==(rI r 0) then (rI (nth Z j) 1)==(rI r 1) else false) i 0) Z 0<;>rfl
  ·simp only[Lt h9,aQ,show decide (len Z≤96)=true from Lu (by omega)]
   exact J9 rfl rfl
def vy (Y:Bool→α) (l1:Int→Int→Int→Int→α) (Z:Rows) (ov:Int→α) (k:Int):α:=
 bif decide (k<len Z) then
  bif Ed true (idx k Z) then
   bif bif !(nf (rI (nth Z (Int.toNat k)) 0) 0 7) then true else bif !(nf (rI (nth Z (Int.toNat k)) 1) 0 1023) then true else !(nf (rI (nth Z (Int.toNat k)) 2) 0 63) then Y false
   else l1 k (rI (nth Z (Int.toNat k)) 0) (rI (nth Z (Int.toNat k)) 1) 0
  else kf
 else Y true
def vz (Y:Bool→α) (ov:Int→α) (Z:Rows) (k x oy:Int) (ih1:Int→α) (i:Int):α:=
 let z0:Bool:=(rI (nth Z (Int.toNat i)) 0)==x
 bif decide (i<k) then
  bif L0 z0 (Ed (Ed true (idx i Z)) (idx i Z)) (Ed true (idx i Z)) then
   bif bif z0 then (rI (nth Z (Int.toNat i)) 1)==oy else false then Y false
   else ih1 (nL (i+1))
  else kf
 else ov (nL (k+1))
def rT (Y:Bool→α) (N:Nat) (ov:Int→α) (Z:Rows) (k x oy:Int) (m_:Nat):Int→α:=
 Nat.rec (motive:=fun _=>Int→α) (fun _=>kf) (fun _ ih1=>vz kf Y ov Z k x oy ih1) m_
theorem S7 (Y:Bool→α) (N:Nat) (ov:Int→α) (Z:Rows) (k x oy:Int) (m_:Nat) (i:Int):rT kf Y N ov Z k x oy (m_+1) i=vz kf Y ov Z k x oy (rT kf Y N ov Z k x oy m_) i:=rfl
def t3 (Y:Bool→α) (N:Nat) (Z:Rows) (m_:Nat):Int→α:=
 Nat.rec (motive:=fun _=>Int→α) (fun _=>kf) (fun _ ov=>vy kf Y (fun k x oy=>rT kf Y N ov Z k x oy N) Z ov) m_
theorem S6 (Y:Bool→α) (N:Nat) (Z:Rows) (m_:Nat) (k:Int):t3 kf Y N Z (m_+1) k=vy kf Y (fun k x oy=>rT kf Y N (t3 kf Y N Z m_) Z k x oy N) Z (t3 kf Y N Z m_) k:=rfl
def Yp (kf:α) (Y:Bool→α) (l0:Int→α) (Z:Rows):α:=
 bif decide (96<len Z) then Y false
 else l0 0
def QM (Y:Bool→α) (N:Nat) (Z:Rows):α:=Yp kf Y (t3 kf Y N Z N) Z
theorem nmH (Y:Bool→α) (Z:Rows) (qh:G5 (.sl [.i,.i,.i,.bool]) (.sl Z)):∃N,QM kf Y N Z=Y (pf Z):=by
 obtain⟨hl,_⟩:=oG qh
 refine⟨Z.length+1, ?_⟩
 unfold QM Yp pf
 refine J9 rfl ?_
 have inner:∀(ih:Int→α) (i:Nat),i<Z.length→rT kf Y (Z.length+1) ih Z (i:Int) (rI (nth Z i) 0) (rI (nth Z i) 1) (Z.length+1) 0=bif zh (fun j=>bif (rI (nth Z j) 0)==(rI (nth Z i) 0) then (rI (nth Z j) 1)==(rI (nth Z i) 1) else false) i 0 then Y false else ih ((i:Int)+1):=by
  intro ih i hi
  have hw:nL ((i:Int)+1)=(i:Int)+1:=ou hi hl
  have:=nmt (σ:=Unit) i (fun n j _=>rT kf Y (Z.length+1) ih Z (i:Int) (rI (nth Z i) 0) (rI (nth Z i) 1) n j) (fun j c s=>bif (bif (rI (nth Z j) 0)==(rI (nth Z i) 0) then (rI (nth Z j) 1)==(rI (nth Z i) 1) else false) then Y false else c s) (fun _=>ih ((i:Int)+1)) ?_ ?_ (Z.length+1) () (by omega)
  ·exact this.trans (nsx (fun j=>bif (rI (nth Z j) 0)==(rI (nth Z i) 0) then (rI (nth Z j) 1)==(rI (nth Z i) 1) else false) (Y false) (ih ((i:Int)+1)) i 0)
  ·intro n j _ hj
   show rT kf Y (Z.length+1) ih Z (i:Int) (rI (nth Z i) 0) (rI (nth Z i) 1) (n+1) (j:Int)=_
   rw[S7]
   have h1:decide ((j:Int)<(i:Int))=true:=Lu (by omega)
   have h2:idx (j:Int) Z=true:=nR (by omega)
   have h3:nL ((j:Int)+1)=(j:Int)+1:=nF (by omega) (by omega)
   simp only[vz,h1,h2,h3,J6,ng,nr,Pm,aj]
  ·intro n _
   show rT kf Y (Z.length+1) ih Z (i:Int) (rI (nth Z i) 0) (rI (nth Z i) 1) (n+1) (i:Int)=_
   rw[S7]
   have h1:decide ((i:Int)<(i:Int))=false:=Lt (by omega)
   simp only[vz,h1,hw,aQ]
 refine (x8 Z (t3 kf Y (Z.length+1) Z) (fun i r c=>bif (bif x9 r then true else zh (fun j=>bif (rI (nth Z j) 0)==(rI r 0) then (rI (nth Z j) 1)==(rI r 1) else false) i 0) then Y false else c) (Y true) ?_ ?_ (Z.length+1) (by omega)).trans ?_
 ·intro n i h
  rw[S6]
  simp only[vy,oU h,nR h,J6,ng,nr,aj,Pm,inner _ i h]
  show (bif x9 (nth Z i) then Y false else _)=_
  cases x9 (nth Z i)<;>rfl
 ·intro n
  rw[S6]
  simp only[vy,nQ,aQ]
 ·refine (xe (fun i r=>bif x9 r then true else zh (fun j=>bif (rI (nth Z j) 0)==(rI r 0) then (rI (nth Z j) 1)==(rI r 1) else false) i 0) _ _ Z 0).trans ?_
  exact J9 rfl rfl
def VF (Y:Rows→α) (l:Rows):α:=
 bif Ed true (qx 16 [] l) then
  Y l
 else kf
theorem njE (Y:Rows→α) (l:Rows) (aP:sm l=true):VF kf Y l=Y (n7 l):=by
 unfold VF
 rw[qY aP (show 16≤8388608 by omega)]
 rfl
def XE (Y:na→α) (m:na):α:=
 bif Ed true (sm m.nP) then
  Y (⟨n7 m.nP⟩:na)
 else kf
def sJ (m:na):Bool:=sm m.nP
theorem nle (Y:na→α) (m:na) (aP:sJ m=true):XE kf Y m=Y (n7 m):=by
 have h:sm m.nP=true:=aP
 unfold XE
 simp only[h,ng,aj]
 rfl
def zS (Y:Bool→α) (x:Rows) (oy:Int) (ta:Rows) (ov:Int→α) (oD:Int):α:=
 bif decide (oD<oy) then
  bif Ed true (idx oD x) then
   bif (len (rS (nth x (Int.toNat oD)) 0)) != 128 then Y false
   else ov (nL (oD+1))
  else kf
 else Y (decide (len ta≤64))
def zR (Y:Bool→α) (N:Nat) (x:Rows) (oy:Int) (ta:Rows) (m_:Nat):Int→α:=
 Nat.rec (motive:=fun _=>Int→α) (fun _=>kf) (fun _ ov=>zS kf Y x oy ta ov) m_
theorem Vh (Y:Bool→α) (N:Nat) (x:Rows) (oy:Int) (ta:Rows) (m_:Nat):zR kf Y N x oy ta (m_+1)=zS kf Y x oy ta (zR kf Y N x oy ta m_):=rfl
def Tq (kf:α) (Y:Bool→α) (l0:Rows→Int→Rows→Int→α) (m:na):α:=
 l0 m.nP (len m.nP) m.nP 0
def nci (Y:Bool→α) (N:Nat) (m:na):α:=Tq kf Y (fun x oy ta=>zR kf Y N x oy ta N) m
def qo (m:na):Bool:=bif q_ (fun _ r=>(len (rS r 0)) != 128) m.nP 0 then false else decide (len m.nP≤64)
theorem nqd (Y:Bool→α) (m:na) (U5:kd na.ct m.enc):∃N,nci kf Y N m=Y (qo m):=by
 obtain⟨hl,_⟩:=oG (na.xz U5)
 refine⟨m.nP.length+1, ?_⟩
 unfold nci Tq qo
 refine (rQ m.nP (zR kf Y (m.nP.length+1) m.nP (len m.nP) m.nP) (fun i r c=>bif (len (rS r 0)) != 128 then Y false else c) (Y (decide (len m.nP≤64))) ?_ ?_).trans ?_
 ·intro n i h
  rw[Vh]
  simp only[zS,oU h,nR h,ou h hl,J6,ng,nr,aj]
 ·intro n
  rw[Vh]
  simp only[zS,nQ,aQ]
 ·refine (xe (fun _ r=>(len (rS r 0)) != 128) _ _ m.nP 0).trans ?_
  exact J9 rfl rfl
def NA (Y:Bool→α) (ta:Rows) (ov:Int→α) (k:Int):α:=
 bif decide (k<len ta) then
  bif Ed true (idx k ta) then
   bif (len (rS (nth ta (Int.toNat k)) 0)) != 128 then Y false
   else ov (nL (k+1))
  else kf
 else Y (decide (len ta≤64))
def Nz (Y:Bool→α) (N:Nat) (ta:Rows) (m_:Nat):Int→α:=
 Nat.rec (motive:=fun _=>Int→α) (fun _=>kf) (fun _ ov=>NA kf Y ta ov) m_
theorem WL (Y:Bool→α) (N:Nat) (ta:Rows) (m_:Nat):Nz kf Y N ta (m_+1)=NA kf Y ta (Nz kf Y N ta m_):=rfl
def TS (kf:α) (Y:Bool→α) (l0:Rows→Int→α) (m:na):α:=
 l0 m.nP 0
def ndV (Y:Bool→α) (N:Nat) (m:na):α:=TS kf Y (fun ta=>Nz kf Y N ta N) m
theorem nr5 (Y:Bool→α) (m:na) (U5:kd na.ct m.enc):∃N,ndV kf Y N m=Y (qo m):=by
 obtain⟨hl,_⟩:=oG (na.xz U5)
 refine⟨m.nP.length+1, ?_⟩
 unfold ndV TS qo
 refine (rQ m.nP (Nz kf Y (m.nP.length+1) m.nP) (fun i r c=>bif (len (rS r 0)) != 128 then Y false else c) (Y (decide (len m.nP≤64))) ?_ ?_).trans ?_
 ·intro n i h
  rw[WL]
  simp only[NA,oU h,nR h,ou h hl,J6,ng,nr,aj]
 ·intro n
  rw[WL]
  simp only[NA,nQ,aQ]
 ·refine (xe (fun _ r=>(len (rS r 0)) != 128) _ _ m.nP 0).trans ?_
  exact J9 rfl rfl
def TC (Y:Bool→α) (n:Int):α:=
 Y (bif n==2 then true else bif n==4 then true else bif n==8 then true else n==16)
def vw (n:Int):Bool:=TC id n
theorem ncQ (Y:Bool→α) (n:Int):TC Y n=Y (vw n):=by
 rfl
def ZU (Y:Bool→α) (n:Int):α:=
 Y (bif n==1 then true else bif n==2 then true else bif n==4 then true else bif n==8 then true else n==16)
def UW (n:Int):Bool:=ZU id n
theorem ZT (Y:Bool→α) (n:Int):ZU Y n=Y (UW n):=by
 rfl
def N3 (Y:Int→α) (x n:Int):α:=
 bif Ed true (!(n==0)) then
  Y (bif decide (Int.tmod x n<0) then nL ((Int.tmod x n)+n) else Int.tmod x n)
 else kf
def Nr (x n:Int):Bool:=N3 false (fun _=>true) x n
def Y8 (x n:Int):Int:=(N3 none (fun r0=>some (r0)) x n).getD 0
theorem nvy (Y:Int→α) (x n:Int) (aP:Nr x n=true):N3 kf Y x n=Y (Y8 x n):=by
 exact uo (K:=fun r:Int=>Y r) (oe pP) aP
def ncr (Y:Int→α) (r:n8):α:=
 let z0:Int:=nL ((Y8 r.wI (nL (2*r.nO))) - (Y8 r.Head (nL (2*r.nO))))
 bif !(vw r.nO) then Y 0
 else bif Ed (Ed (Ed true (Nr r.wI (nL (2*r.nO)))) (Nr r.Head (nL (2*r.nO)))) (Nr z0 (nL (2*r.nO))) then
   Y (Y8 z0 (nL (2*r.nO)))
  else kf
theorem nep (k:Nat) (hk:k≤62) (a:Int):bits .and .i64 a ((2 ^ k - 1:Nat):Int)=a % ((2 ^ k:Nat):Int):=by
 have hp:2 ^ k≤2 ^ 62:=Nat.pow_le_pow_right (by decide) hk
 have h62:(2:Nat) ^ 62=4611686018427387904:=by decide
 have hd:2 ^ k ∣ (18446744073709551616:Nat):=by
  rw[show (18446744073709551616:Nat)=2 ^ 64 by decide]
  exact Nat.pow_dvd_pow 2 (by omega)
 have hc:(BitVec.ofInt 64 ((2 ^ k - 1:Nat):Int)).toNat=2 ^ k - 1:=by
  rw[BitVec.ofInt_natCast,BitVec.toNat_ofNat]
  exact Nat.mod_eq_of_lt (by omega)
 have hn:(BitVec.ofInt 64 a &&& BitVec.ofInt 64 ((2 ^ k - 1:Nat):Int)).toNat=(a % 18446744073709551616).toNat % 2 ^ k:=by
  rw[BitVec.toNat_and,hc,Nat.and_two_pow_sub_one_eq_mod,BitVec.toNat_ofInt]
  rfl
 have cz:(a % 18446744073709551616).toNat % 2 ^ k<2 ^ k:=Nat.mod_lt _ (Nat.pos_of_ne_zero (by intro h;have:=Nat.two_pow_pos k;omega))
 have h63:(((BitVec.ofInt 64 a &&& BitVec.ofInt 64 ((2 ^ k - 1:Nat):Int)).toNat:Nat):Int)<2 ^ 63:=by
  rw[hn]
  have:(2:Int) ^ 63=9223372036854775808:=by decide
  rw[this]
  omega
 have e:bits .and .i64 a ((2 ^ k - 1:Nat):Int)=(((BitVec.ofInt 64 a &&& BitVec.ofInt 64 ((2 ^ k - 1:Nat):Int)).toNat:Nat):Int):=
  ng9 (((BitVec.ofInt 64 a &&& BitVec.ofInt 64 ((2 ^ k - 1:Nat):Int)).toNat:Nat):Int) (Int.natCast_nonneg _) h63
 rw[e,hn,Int.natCast_emod,Int.toNat_of_nonneg (Int.emod_nonneg _ (by decide)),Int.emod_emod_of_dvd]
 exact Int.natCast_dvd_natCast.2 hd
theorem and_3 (a:Int):bits .and .i64 a 3=a % 4:=nep 2 (by decide) a
theorem nzt (a:Int):bits .and .i64 a 7=a % 8:=nep 3 (by decide) a
theorem nzr (a:Int):bits .and .i64 a 15=a % 16:=nep 4 (by decide) a
theorem nzs (a:Int):bits .and .i64 a 31=a % 32:=nep 5 (by decide) a
theorem xu {n:Int} (h:vw n=true):n=2∨n=4∨n=8∨n=16:=by
 unfold vw TC at h
 by_cases h2:n=2
 ·exact .inl h2
 by_cases h4:n=4
 ·exact .inr (.inl h4)
 by_cases h8:n=8
 ·exact .inr (.inr (.inl h8))
 by_cases h16:n=16
 ·exact .inr (.inr (.inr h16))
 simp [h2,h4,h8,h16] at h
theorem WB {x n:Int} (hx: -9223372036854775808≤x) (Ck:x≤9223372036854775807) (h:0<n) (h':n≤4294967296):Nr x n=true∧Y8 x n=x % n:=by
 have hn:(n==0)=false:=by simp;omega
 have e:Y8 x n=bif decide (Int.tmod x n<0) then nL ((Int.tmod x n)+n) else Int.tmod x n:=by
  unfold Y8 N3
  rw[hn]
  rfl
 refine⟨by unfold Nr N3;rw[hn];rfl, ?_⟩
 rw[e]
 have h1:=Int.tmod_eq_emod (a:=x) (b:=n)
 have h2:=Int.emod_nonneg x (show n≠0 by omega)
 have h3:=Int.emod_lt_of_pos x h
 by_cases hl:Int.tmod x n<0
 ·rw[Lu hl,aj]
  split at h1
  ·omega
  ·have hna:((n.natAbs:Nat):Int)=n:=by omega
   rw[hna] at h1
   rw[nF (by omega) (by omega)]
   omega
 ·rw[Lt hl,aQ]
  split at h1
  ·omega
  ·have hna:((n.natAbs:Nat):Int)=n:=by omega
   rw[hna] at h1
   omega
def zo (r:n8):Int:=bif vw r.nO then (r.wI - r.Head) % (2*r.nO) else 0
theorem nqh (Y:Int→α) (r:n8) (h_r:kd n8.ct r.enc):ncr kf Y r=Y (zo r):=by
 have ht:=wR (n8.nAA h_r)
 have hh:=wR (n8.nAw h_r)
 unfold ncr zo
 cases hs:vw r.nO
 ·rfl
 ·have h2:nL (2*r.nO)=2*r.nO∧0<2*r.nO∧2*r.nO≤32:=by
   rcases xu hs with h | h | h | h<;>rw[h]<;>exact⟨rfl,by decide,by decide⟩
  obtain⟨h2,h3,h4⟩:=h2
  obtain⟨a1,a2⟩:=WB ht.1 ht.2 h3 (by omega)
  obtain⟨b1,b2⟩:=WB hh.1 hh.2 h3 (by omega)
  have n1:=Int.emod_nonneg r.wI (show 2*r.nO≠0 by omega)
  have n2:=Int.emod_lt_of_pos r.wI h3
  have m1:=Int.emod_nonneg r.Head (show 2*r.nO≠0 by omega)
  have m2:=Int.emod_lt_of_pos r.Head h3
  have hw:nL (r.wI % (2*r.nO) - r.Head % (2*r.nO))=r.wI % (2*r.nO) - r.Head % (2*r.nO):=nF (by omega) (by omega)
  obtain⟨c1,c2⟩:=WB (x:=r.wI % (2*r.nO) - r.Head % (2*r.nO)) (by omega) (by omega) h3 (by omega)
  simp only[h2,a1,a2,b1,b2,hw,c1,c2,ng,nr,aj,Bool.not_true,aQ]
  rw[←Int.sub_emod]
def ndZ (Y:Int→α) (r:n8):α:=
 bif !(vw r.nO) then Y 0
 else Y (bits .and .i64 (nL (r.wI - r.Head)) (nL ((nL (2*r.nO)) - 1)))
theorem nr_ (Y:Int→α) (r:n8):ndZ Y r=Y (zo r):=by
 unfold ndZ zo
 cases hs:vw r.nO
 ·rfl
 ·have key:bits .and .i64 (nL (r.wI - r.Head)) (nL ((nL (2*r.nO)) - 1))=(r.wI - r.Head) % (2*r.nO):=by
   rcases xu hs with h | h | h | h<;>rw[h]
   ·exact (and_3 _).trans (by rw[npo];show _=(r.wI - r.Head) % 4;omega)
   ·exact (nzt _).trans (by rw[npo];show _=(r.wI - r.Head) % 8;omega)
   ·exact (nzr _).trans (by rw[npo];show _=(r.wI - r.Head) % 16;omega)
   ·exact (nzs _).trans (by rw[npo];show _=(r.wI - r.Head) % 32;omega)
  simp only[key,Bool.not_true,aQ,aj]
def YL (Y:Bool→α) (r:n8):α:=
 let z0:Int:=nL ((nL (2*r.nO)) - 1)
 Y (bif nf r.qk 0 130944 then bif vw r.nO then bif nf r.Head 0 z0 then bif nf r.wI 0 z0 then decide (zo r≤r.nO) else false else false else false else false)
def ud (r:n8):Bool:=YL id r
theorem nhS (Y:Bool→α) (r:n8):YL Y r=Y (ud r):=by
 rfl
theorem SI {r:n8} (h:ud r=true):2≤r.nO∧r.nO≤16:=by
 have hs:vw r.nO=true:=by
  cases hs:vw r.nO
  ·unfold ud YL at h
   rw[hs] at h
   revert h
   cases nf r.qk 0 130944<;>simp
  ·rfl
 rcases xu hs with h | h | h | h<;>omega
def Qg (Y:Bool→α) (q:nd):α:=
 Y (bif nf q.qk 0 130944 then bif vw q.nO then nf q.Count 0 (nL ((nL (2*q.nO)) - 1)) else false else false)
def qD (q:nd):Bool:=Qg id q
theorem neR (Y:Bool→α) (q:nd):Qg Y q=Y (qD q):=by
 rfl
def ntj (Y:Bool→α) (v:nA):α:=
 Y (bif decide (1≤v.Count) then bif decide (v.zn≤v.Count) then true else decide (v.PH≤v.Time) else false)
def due (v:nA):Bool:=ntj id v
theorem ntg (Y:Bool→α) (v:nA):ntj Y v=Y (due v):=by
 rfl
def ncD (Y:Bool→α) (v:nA):α:=
 let z0:Bool:=bif due v then v.Rd== !v.Rc else v.Rd==false
 bif bif !(nf v.zn 1 64) then true else bif !(nf v.PH 0 64) then true else bif !(nf v.Count 0 1000000) then true else !(nf v.Time 0 1000000) then Y false
 else Y (bif decide (0<v.Count) then z0 else bif v.Time==0 then z0 else false)
def tU (v:nA):Bool:=ncD id v
theorem ncB (Y:Bool→α) (v:nA):ncD Y v=Y (tU v):=by
 exact J9 rfl rfl
def neZ (Y:Bool→α) (q:nh):α:=
 bif bif !(ud q.Ring) then true else bif !(qD q.Device) then true else bif !(qD q.Driver) then true else bif q.Device.qk != q.Driver.qk then true else bif q.Device.nO != q.Driver.nO then true else !(nf q.vJ 0 1000000000000) then Y false
 else bif !q.sV then Y (bif bif q.ql.nM.sK==0 then bif q.ql.nM.sW==0 then bif q.ql.nM.rO==0 then bif q.ql.nM.Tos==0 then bif q.ql.nM.Id==0 then bif q.ql.nM.Ttl==0 then bif q.ql.nM.o_==0 then bif q.ql.nM.qm==0 then bif bif q.ql.nM.pG.Kind==0 then bif q.ql.nM.pG.om==0 then bif q.ql.nM.pG.n9==0 then bif q.ql.nM.pG.Seq==0 then bif q.ql.nM.pG.Ack==0 then bif q.ql.nM.pG.Flags==0 then bif q.ql.nM.pG.sw==0 then bif q.ql.nM.pG.Body==[] then true else false else false else false else false else false else false else false else false then true else false else false else false else false else false else false else false else false else false then bif q.ql.nO==0 then bif q.ql.Count==0 then true else false else false else false)
 else Y (bif qH q.ql.nM then bif nf q.ql.nO 0 320 then nf q.ql.Count 1 320 else false else false)
def yi (q:nh):Bool:=neZ id q
theorem npE (Y:Bool→α) (q:nh):neZ Y q=Y (yi q):=by
 exact J9 rfl (J9 rfl rfl)
def N0 (Y:Bool→α) (r:oE):α:=
 let z0:Bool:=bif !(nf r.o_ 0 4294967295) then true else !(nf r.vK 0 32)
 let z1:Bool:=bif r.Action==1 then r.Queue==0 else false
 bif bif !(nf r.Priority 0 1000) then true else bif r.Kind != 0 then bif r.Kind != 6 then bif r.Kind != 17 then true else z0 else z0 else z0 then Y false
 else bif bif decide (r.yw<0) then true else bif decide (r.NP<r.yw) then true else bif decide (65535<r.NP) then true else !(nf r.rO (-2) 4095) then Y false
 else Y (bif r.Action==0 then bif nf r.Queue 0 3 then true else z1 else z1)
def uQ (r:oE):Bool:=N0 id r
theorem nhT (Y:Bool→α) (r:oE):N0 Y r=Y (uQ r):=by
 exact J9 rfl (J9 rfl rfl)
def Oy (Y:Bool→α) (Z x:Rows) (oy:Int) (ov:Int→α) (oD:Int):α:=
 bif decide (oD<oy) then
  bif Ed true (idx oD x) then
   bif !(uQ (oE.nc (nth x (Int.toNat oD)) 0)) then Y false
   else ov (nL (oD+1))
  else kf
 else Y (decide (len Z≤12))
def Ox (Y:Bool→α) (N:Nat) (Z x:Rows) (oy:Int) (m_:Nat):Int→α:=
 Nat.rec (motive:=fun _=>Int→α) (fun _=>kf) (fun _ ov=>Oy kf Y Z x oy ov) m_
theorem Xy (Y:Bool→α) (N:Nat) (Z x:Rows) (oy:Int) (m_:Nat):Ox kf Y N Z x oy (m_+1)=Oy kf Y Z x oy (Ox kf Y N Z x oy m_):=rfl
def Vj (kf:α) (Y:Bool→α) (l0:Rows→Int→Int→α) (Z:Rows):α:=
 l0 Z (len Z) 0
def neX (Y:Bool→α) (N:Nat) (Z:Rows):α:=Vj kf Y (fun x oy=>Ox kf Y N Z x oy N) Z
def xC (Z:Rows):Bool:=bif Z.all (fun r=>uQ (oE.nc r 0)) then decide (len Z≤12) else false
theorem ns8 (Y:Bool→α) (Z:Rows) (qh:G5 (.sl [.i,.i,.i,.i,.i,.i,.i,.i,.i]) (.sl Z)):∃N,neX kf Y N Z=Y (xC Z):=by
 obtain⟨hl,_⟩:=oG qh
 refine⟨Z.length+1, ?_⟩
 unfold neX Vj
 refine (rQ Z (Ox kf Y (Z.length+1) Z Z (len Z)) (fun i r c=>bif !(uQ (oE.nc r 0)) then Y false else c) (Y (decide (len Z≤12))) ?_ ?_).trans ?_
 ·intro n i h
  rw[Xy]
  simp only[Oy,oU h,nR h,ou h hl,J6,ng,nr,aj]
 ·intro n
  rw[Xy]
  simp only[Oy,nQ,aQ]
 ·refine (Se (fun r=>uQ (oE.nc r 0)) _ _ Z 0).trans ?_
  exact J9 rfl rfl
def OV (Y:Bool→α) (Z:Rows) (ov:Int→α) (k:Int):α:=
 bif decide (k<len Z) then
  bif Ed true (idx k Z) then
   bif !(uQ (oE.nc (nth Z (Int.toNat k)) 0)) then Y false
   else ov (nL (k+1))
  else kf
 else Y (decide (len Z≤12))
def OU (Y:Bool→α) (N:Nat) (Z:Rows) (m_:Nat):Int→α:=
 Nat.rec (motive:=fun _=>Int→α) (fun _=>kf) (fun _ ov=>OV kf Y Z ov) m_
theorem Yu (Y:Bool→α) (N:Nat) (Z:Rows) (m_:Nat):OU kf Y N Z (m_+1)=OV kf Y Z (OU kf Y N Z m_):=rfl
def WN (kf:α) (Y:Bool→α) (l0:Int→α) (Z:Rows):α:=
 l0 0
def ngh (Y:Bool→α) (N:Nat) (Z:Rows):α:=WN kf Y (OU kf Y N Z N) Z
theorem nuF (Y:Bool→α) (Z:Rows) (qh:G5 (.sl [.i,.i,.i,.i,.i,.i,.i,.i,.i]) (.sl Z)):∃N,ngh kf Y N Z=Y (xC Z):=by
 obtain⟨hl,_⟩:=oG qh
 refine⟨Z.length+1, ?_⟩
 unfold ngh WN
 refine (rQ Z (OU kf Y (Z.length+1) Z) (fun i r c=>bif !(uQ (oE.nc r 0)) then Y false else c) (Y (decide (len Z≤12))) ?_ ?_).trans ?_
 ·intro n i h
  rw[Yu]
  simp only[OV,oU h,nR h,ou h hl,J6,ng,nr,aj]
 ·intro n
  rw[Yu]
  simp only[OV,nQ,aQ]
 ·refine (Se (fun r=>uQ (oE.nc r 0)) _ _ Z 0).trans ?_
  exact J9 rfl rfl
def ncI (Y:Rows→α) (l:Rows):α:=
 bif Ed true (qx 8 [] l) then
  Y l
 else kf
theorem nqx (Y:Rows→α) (l:Rows) (aP:sm l=true):ncI kf Y l=Y (n7 l):=by
 unfold ncI
 rw[qY aP (show 8≤8388608 by omega)]
 rfl
def ncJ (Y:nJ→α) (p:nJ):α:=
 bif Ed true (sm p.qs) then
  Y (⟨p.qk,p.nO,p.Count,n7 p.qs⟩:nJ)
 else kf
def QD (p:nJ):Bool:=sm p.qs
theorem nqy (Y:nJ→α) (p:nJ) (aP:QD p=true):ncJ kf Y p=Y (n7 p):=by
 have h:sm p.qs=true:=aP
 unfold ncJ
 simp only[h,ng,aj]
 rfl
def ngG (Y:nJ→α) (p:nJ):α:=
 bif Ed true (qx 8 [] p.qs) then
  Y p
 else kf
theorem nuX (Y:nJ→α) (p:nJ) (aP:QD p=true):ngG kf Y p=Y (n7 p):=by
 have h:sm p.qs=true:=aP
 unfold ngG
 rw[qY h (show 8≤8388608 by omega)]
 rfl
def Qf (Y:Bool→α) (x:Rows) (oy R0:Int) (ov:Int→Rows→α) (oD:Int) (seen:Rows):α:=
 let z0:Bool:= !(nf (rI (nth x (Int.toNat oD)) 0) 0 (nL (R0 - 1)))
 let z1:Nat:=Int.toNat (rI (nth x (Int.toNat oD)) 0)
 let z2:Bool:=Ed (Ed true (idx (rI (nth x (Int.toNat oD)) 0) seen)) (inl z1 seen)
 let z3:List DC:=nth seen z1
 bif decide (oD<oy) then
  bif Ed true (idx oD x) then
   bif L0 z0 true z2 then
    bif bif z0 then true else rB z3 0 then Y false
    else bif z2 then
      ov (nL (oD+1)) (List.set seen z1 (bX z3 0 [.bool true]))
     else kf
   else kf
  else kf
 else Y true
def Qe (Y:Bool→α) (N:Nat) (x:Rows) (oy R0:Int) (m_:Nat):Int→Rows→α:=
 Nat.rec (motive:=fun _=>Int→Rows→α) (fun _ _=>kf) (fun _ ov=>Qf kf Y x oy R0 ov) m_
theorem ZB (Y:Bool→α) (N:Nat) (x:Rows) (oy R0:Int) (m_:Nat):Qe kf Y N x oy R0 (m_+1)=Qf kf Y x oy R0 (Qe kf Y N x oy R0 m_):=rfl
def YK (Y:Bool→α) (l0:Rows→Int→Int→Int→Rows→α) (p:nJ):α:=
 bif bif !(nf p.qk 0 130944) then true else bif !(nf p.nO 1 512) then true else !(nf p.Count 0 16) then Y false
 else bif Ed true (xq 1 p.Count p.Count) then
   l0 p.qs (len p.qs) p.Count 0 (List.replicate (Int.toNat p.Count) ([.bool false]:List DC))
  else kf
def nhR (Y:Bool→α) (N:Nat) (p:nJ):α:=YK kf Y (fun x oy R0=>Qe kf Y N x oy R0 N) p
def UI {α σ:Type} (P:List DC→σ→Bool) (f:List DC→σ→σ) (x:α) (fin:σ→α):Rows→σ→α
 | [],s=>fin s
 | r::rs,s=>bif P r s then x else UI P f x fin rs (f r s)
theorem niS {α σ:Type} (list:Rows) (L:Nat→Int→σ→α) (P:List DC→σ→Bool) (f:List DC→σ→σ) (x:α) (fin:σ→α) (I:Nat→σ→Prop) (hI:∀i s,i<list.length→I i s→P (nth list i) s=false→I (i+1) (f (nth list i) s))
  (hs:∀n i s,i<list.length→I i s→L (n+1) (i:Int) s=bif P (nth list i) s then x else L n ((i:Int)+1) (f (nth list i) s))
  (hz:∀n s,I list.length s→L (n+1) (list.length:Int) s=fin s):∀(m i:Nat) (s:σ),i+m=list.length→I i s→L (m+1) (i:Int) s=UI P f x fin (list.drop i) s
 | 0,i,s,h,hi=>by
  have:i=list.length:=by omega
  subst this
  rw[hz 0 s hi,List.drop_length]
  rfl
 | m+1,i,s,h,hi=>by
  have cz:i<list.length:=by omega
  rw[hs (m+1) i s cz hi,List.drop_eq_getElem_cons cz]
  have hn:nth list i=list[i]:=by simp [nth,List.getD_eq_getElem?_getD,cz]
  show _=bif P list[i] s then x else UI P f x fin (list.drop (i+1)) (f list[i] s)
  rw[←hn]
  cases hp:P (nth list i) s
  ·rw[aQ,aQ]
   have:=niS list L P f x fin I hI hs hz m (i+1) (f (nth list i) s) (by omega) (hI i s cz hi hp)
   rw[←this]
   rfl
  ·rfl
theorem nmu {α σ:Type} (list:Rows) (L:Nat→Int→σ→α) (P:List DC→σ→Bool) (f:List DC→σ→σ) (x:α) (fin:σ→α) (I:Nat→σ→Prop) (hI:∀i s,i<list.length→I i s→P (nth list i) s=false→I (i+1) (f (nth list i) s))
  (hs:∀n i s,i<list.length→I i s→L (n+1) (i:Int) s=bif P (nth list i) s then x else L n ((i:Int)+1) (f (nth list i) s))
  (hz:∀n s,I list.length s→L (n+1) (list.length:Int) s=fin s) (s:σ) (h:I 0 s):L (list.length+1) 0 s=UI P f x fin list s:=
 niS list L P f x fin I hI hs hz list.length 0 s (by omega) h
theorem nyl {α β σ:Type} (k:β→α) (P:List DC→σ→Bool) (f:List DC→σ→σ) {x:β} (fin:σ→β):∀(list:Rows) (s:σ),UI P f (k x) (fun s=>k (fin s)) list s=k (UI P f x fin list s)
 | [],s=>rfl
 | r::rs,s=>by
  simp only[UI]
  cases P r s
  ·exact nyl k P f fin rs _
  ·rfl
theorem cond_congr {c d:Bool} {x y u v:α} (h:c=d) (h1:c=true→x=u) (h2:c=false→y=v):(bif c then x else y)=(bif d then u else v):=by
 subst h
 cases c
 ·exact h2 rfl
 ·exact h1 rfl
def nxZ (n:Int) (r:List DC) (s:Rows):Bool:=bif !(nf (rI r 0) 0 (n - 1)) then true else rB (nth s (Int.toNat (rI r 0))) 0
def nun (r:List DC) (s:Rows):Rows:=List.set s (Int.toNat (rI r 0)) (bX (nth s (Int.toNat (rI r 0))) 0 [.bool true])
theorem nmv (r:List DC) (s:Rows):(nun r s).length=s.length:=by simp [nun]
def tR (p:nJ):Bool:=bif bif !(nf p.qk 0 130944) then true else bif !(nf p.nO 1 512) then true else !(nf p.Count 0 16) then false
 else UI (nxZ p.Count) nun false (fun _=>true) p.qs (List.replicate (Int.toNat p.Count) [.bool false])
theorem nvq (Y:Bool→α) (p:nJ) (h_p:kd nJ.ct p.enc):∃N,nhR kf Y N p=Y (tR p):=by
 obtain⟨hl,hw⟩:=oG (nJ.nsB h_p)
 refine⟨p.qs.length+1, ?_⟩
 unfold nhR YK tR
 refine oA (fun _=>rfl) (fun hg=> ?_)
 have hc:0≤p.Count∧p.Count≤16:=by
  cases h1:nf p.qk 0 130944
  ·rw[h1] at hg;cases hg
  cases h2:nf p.nO 1 512
  ·rw[h1,h2] at hg;cases hg
  cases h3:nf p.Count 0 16
  ·rw[h1,h2,h3] at hg;cases hg
  exact nZ.1 h3
 have hmk:xq 1 p.Count p.Count=true:=by
  simp only[xq,aw,eX]
  omega
 rw[hmk,ng,aj]
 refine (nmu p.qs (Qe kf Y (p.qs.length+1) p.qs (len p.qs) p.Count) (nxZ p.Count) nun (Y false) (fun _=>Y true) (fun _ s=>(s.length:Int)=p.Count) (fun i s _ h _=> ?_) ?_ ?_ (List.replicate (Int.toNat p.Count) [.bool false]) ?_).trans ?_
 ·show ((nun (nth p.qs i) s).length:Int)=p.Count
  rw[nmv,h]
 ·intro n i s h hs
  rw[ZB]
  have hw1:nL (p.Count - 1)=p.Count - 1:=nF (by omega) (by omega)
  have hx:nf (rI (nth p.qs i) 0) 0 (p.Count - 1)=true→idx (rI (nth p.qs i) 0) s=true∧inl (Int.toNat (rI (nth p.qs i) 0)) s=true:=by
   intro hb
   have:=nZ.1 hb
   refine⟨?_, ?_⟩
   ·simp only[idx,aw,eX];omega
   ·simp only[inl,eX];omega
  unfold nxZ
  simp only[Qf,oU h,nR h,ou h hl,J6,ng,nr,aj,hw1]
  cases hb:nf (rI (nth p.qs i) 0) 0 (p.Count - 1)
  ·rw[xt (g:= !false) (x:=true) (fun _=>rfl) (fun h=>by cases h)]
   rfl
  ·obtain⟨x1,x2⟩:=hx hb
   rw[x1,x2]
   rfl
 ·intro n s _
  rw[ZB]
  simp only[Qf,nQ,aQ]
 ·simp only[List.length_replicate];omega
 ·exact nyl Y _ _ (fun _=>true) p.qs _
def QO (Y:Bool→α) (R0:Int) (UC:Rows) (ov:Int→Rows→α) (k:Int) (seen:Rows):α:=
 let z0:Bool:= !(nf (rI (nth UC (Int.toNat k)) 0) 0 (nL (R0 - 1)))
 let z1:Bool:=idx (rI (nth UC (Int.toNat k)) 0) seen
 let z2:Nat:=Int.toNat (rI (nth UC (Int.toNat k)) 0)
 let z3:Bool:=inl z2 seen
 let z4:List DC:=nth seen z2
 bif decide (k<len UC) then
  bif L0 z0 (Ed true (idx k UC)) (Ed (Ed (Ed (Ed true (idx k UC)) (idx k UC)) z1) z3) then
   bif bif z0 then true else rB z4 0 then Y false
   else bif Ed (Ed (Ed true (idx k UC)) z1) z3 then
     ov (nL (k+1)) (List.set seen z2 (bX z4 0 [.bool true]))
    else kf
  else kf
 else Y true
def QN (Y:Bool→α) (N:Nat) (R0:Int) (UC:Rows) (m_:Nat):Int→Rows→α:=
 Nat.rec (motive:=fun _=>Int→Rows→α) (fun _ _=>kf) (fun _ ov=>QO kf Y R0 UC ov) m_
theorem nbl (Y:Bool→α) (N:Nat) (R0:Int) (UC:Rows) (m_:Nat):QN kf Y N R0 UC (m_+1)=QO kf Y R0 UC (QN kf Y N R0 UC m_):=rfl
def Zd (Y:Bool→α) (l0:Int→Rows→Int→Rows→α) (p:nJ):α:=
 bif bif !(nf p.qk 0 130944) then true else bif !(nf p.nO 1 512) then true else !(nf p.Count 0 16) then Y false
 else bif Ed true (xq 1 p.Count p.Count) then
   l0 p.Count p.qs 0 (List.replicate (Int.toNat p.Count) ([.bool false]:List DC))
  else kf
def niX (Y:Bool→α) (N:Nat) (p:nJ):α:=Zd kf Y (fun R0 UC=>QN kf Y N R0 UC N) p
theorem nwp (Y:Bool→α) (p:nJ) (h_p:kd nJ.ct p.enc):∃N,niX kf Y N p=Y (tR p):=by
 obtain⟨hl,hw⟩:=oG (nJ.nsB h_p)
 refine⟨p.qs.length+1, ?_⟩
 unfold niX Zd tR
 refine oA (fun _=>rfl) (fun hg=> ?_)
 have hc:0≤p.Count∧p.Count≤16:=by
  cases h1:nf p.qk 0 130944
  ·rw[h1] at hg;cases hg
  cases h2:nf p.nO 1 512
  ·rw[h1,h2] at hg;cases hg
  cases h3:nf p.Count 0 16
  ·rw[h1,h2,h3] at hg;cases hg
  exact nZ.1 h3
 have hmk:xq 1 p.Count p.Count=true:=by
  simp only[xq,aw,eX]
  omega
 rw[hmk,ng,aj]
 refine (nmu p.qs (QN kf Y (p.qs.length+1) p.Count p.qs) (nxZ p.Count) nun (Y false) (fun _=>Y true) (fun _ s=>(s.length:Int)=p.Count) (fun i s _ h _=> ?_) ?_ ?_ (List.replicate (Int.toNat p.Count) [.bool false]) ?_).trans ?_
 ·show ((nun (nth p.qs i) s).length:Int)=p.Count
  rw[nmv,h]
 ·intro n i s h hs
  rw[nbl]
  have hw1:nL (p.Count - 1)=p.Count - 1:=nF (by omega) (by omega)
  have hx:nf (rI (nth p.qs i) 0) 0 (p.Count - 1)=true→idx (rI (nth p.qs i) 0) s=true∧inl (Int.toNat (rI (nth p.qs i) 0)) s=true:=by
   intro hb
   have:=nZ.1 hb
   refine⟨?_, ?_⟩
   ·simp only[idx,aw,eX];omega
   ·simp only[inl,eX];omega
  unfold nxZ
  simp only[QO,oU h,nR h,ou h hl,J6,ng,nr,aj,hw1]
  cases hb:nf (rI (nth p.qs i) 0) 0 (p.Count - 1)
  ·rw[xt (g:= !false) (x:=true) (fun _=>rfl) (fun h=>by cases h)]
   rfl
  ·obtain⟨x1,x2⟩:=hx hb
   rw[x1,x2]
   rfl
 ·intro n s _
  rw[nbl]
  simp only[QO,nQ,aQ]
 ·simp only[List.length_replicate];omega
 ·exact nyl Y _ _ (fun _=>true) p.qs _
def Ve (Y:nJ→Bool→α) (p:nJ) (Z:Rows):α:=
 let z0:nJ:=(⟨(n7 p).qk,(n7 p).nO,(n7 p).Count,((n7 p).qs)++Z⟩:nJ)
 bif Ed true (QD p) then
  bif Ed true (qx 8 ((n7 p).qs) Z) then
   bif bif !(tR p) then true else !(tR z0) then
    bif Ed true (QD p) then
     Y (n7 p) false
    else kf
   else Y z0 true
  else kf
 else kf
def Zi (p:nJ) (Z:Rows):Bool:=sm p.qs && decide (p.qs.length+Z.length≤134217728)
theorem nzO {p:nJ} {Z:Rows} (h:Zi p Z=true):sm p.qs=true∧p.qs.length+Z.length≤134217728:=by
 simpa [Zi] using h
def rZ (p:nJ) (Z:Rows):nJ×Bool:=bif bif !(tR p) then true else !(tR (⟨p.qk,p.nO,p.Count,p.qs++Z⟩:nJ)) then (p,false) else ((⟨p.qk,p.nO,p.Count,p.qs++Z⟩:nJ),true)
theorem Vd (Y:nJ→Bool→α) (p:nJ) (Z:Rows) (aP:Zi p Z=true):Ve kf Y p Z=Y (rZ p Z).1 (rZ p Z).2:=by
 have h:Zi p Z=true:=aP
 obtain⟨h1,h2⟩:=nzO h
 have hp:QD p=true:=h1
 unfold Ve rZ
 simp only[n7,hp,Oc h2 (show 8≤1048576 by omega),ng,aj]
 generalize (bif !(tR p) then true else !(tR (⟨p.qk,p.nO,p.Count,p.qs++Z⟩:nJ)))=b
 cases b<;>rfl
def wy (Y:Int→Rows→α) (a:na) (k:Int):α:=
 bif Ed true (PC 1 a.nP k) then
  Y ((uW a.nP k).1) ((uW a.nP k).2)
 else kf
def Oa (a:na) (k:Int):Bool:=wy false (fun _ _=>true) a k
def x_ (a:na) (k:Int):Int×Rows:=(wy none (fun r0 r1=>some (r0,r1)) a k).getD (0,[])
theorem nlT (Y:Int→Rows→α) (a:na) (k:Int) (aP:Oa a k=true):wy kf Y a k=Y (x_ a k).1 (x_ a k).2:=by
 exact uo (K:=fun r:Int×Rows=>Y r.1 r.2) (oe (fun _=>⟨_,rfl,rfl⟩)) aP
def wu (Y:Int→α) (a:na) (k:Int):α:=
 bif Ed true (QW tc 1 a.nP k) then
  bif decide (uS a.nP k<0) then Y (-1)
  else Y (uS a.nP k)
 else kf
def NU (a:na) (k:Int):Bool:=wu false (fun _=>true) a k
def O5 (a:na) (k:Int):Int:=(wu none (fun r0=>some (r0)) a k).getD 0
theorem nlF (Y:Int→α) (a:na) (k:Int) (aP:NU a k=true):wu kf Y a k=Y (O5 a k):=by
 exact uo (K:=fun r:Int=>Y r) (oe (rC pP pP)) aP
def yr (Y:Int→Rows→α) (a:nJ) (k:Int):α:=
 bif Ed true (PC 1 a.qs k) then
  Y ((sH a.qs k).1) ((sH a.qs k).2)
 else kf
def S2 (a:nJ) (k:Int):Bool:=yr false (fun _ _=>true) a k
def QC (a:nJ) (k:Int):Int×Rows:=(yr none (fun r0 r1=>some (r0,r1)) a k).getD (0,[])
theorem nq7 (Y:Int→Rows→α) (a:nJ) (k:Int) (aP:S2 a k=true):yr kf Y a k=Y (QC a k).1 (QC a k).2:=by
 exact uo (K:=fun r:Int×Rows=>Y r.1 r.2) (oe (fun _=>⟨_,rfl,rfl⟩)) aP
def yp (Y:Int→α) (a:nJ) (k:Int):α:=
 bif Ed true (QW sn 1 a.qs k) then
  bif decide (rU a.qs k<0) then Y (-1)
  else Y (rU a.qs k)
 else kf
def SK (a:nJ) (k:Int):Bool:=yp false (fun _=>true) a k
def U7 (a:nJ) (k:Int):Int:=(yp none (fun r0=>some (r0)) a k).getD 0
theorem nqZ (Y:Int→α) (a:nJ) (k:Int) (aP:SK a k=true):yp kf Y a k=Y (U7 a k):=by
 exact uo (K:=fun r:Int=>Y r) (oe (rC pP pP)) aP
def wx (Y:Int→Rows→α) (a:nE) (k:Int):α:=
 bif Ed true (PC 1 a.pV k) then
  Y ((sH a.pV k).1) ((sH a.pV k).2)
 else kf
def N_ (a:nE) (k:Int):Bool:=wx false (fun _ _=>true) a k
def Pj (a:nE) (k:Int):Int×Rows:=(wx none (fun r0 r1=>some (r0,r1)) a k).getD (0,[])
theorem nlP (Y:Int→Rows→α) (a:nE) (k:Int) (aP:N_ a k=true):wx kf Y a k=Y (Pj a k).1 (Pj a k).2:=by
 exact uo (K:=fun r:Int×Rows=>Y r.1 r.2) (oe (fun _=>⟨_,rfl,rfl⟩)) aP
def wq (Y:Int→α) (a:nE) (k:Int):α:=
 bif Ed true (QW sn 1 a.pV k) then
  bif decide (rU a.pV k<0) then Y (-1)
  else Y (rU a.pV k)
 else kf
def NS (a:nE) (k:Int):Bool:=wq false (fun _=>true) a k
def U6 (a:nE) (k:Int):Int:=(wq none (fun r0=>some (r0)) a k).getD 0
theorem nlD (Y:Int→α) (a:nE) (k:Int) (aP:NS a k=true):wq kf Y a k=Y (U6 a k):=by
 exact uo (K:=fun r:Int=>Y r) (oe (rC pP pP)) aP
def uj (Y:Int→Rows→α) (a:ni) (k:Int):α:=
 bif Ed true (PC 7 a.nC k) then
  Y ((RS a.nC k).1) ((RS a.nC k).2)
 else kf
def xr (a:ni) (k:Int):Bool:=uj false (fun _ _=>true) a k
def wP (a:ni) (k:Int):Int×Rows:=(uj none (fun r0 r1=>some (r0,r1)) a k).getD (0,[])
theorem nfs (Y:Int→Rows→α) (a:ni) (k:Int) (aP:xr a k=true):uj kf Y a k=Y (wP a k).1 (wP a k).2:=by
 exact uo (K:=fun r:Int×Rows=>Y r.1 r.2) (oe (fun _=>⟨_,rfl,rfl⟩)) aP
def ui (Y:Int→α) (a:ni) (k:Int):α:=
 bif Ed true (QW nby 7 a.nC k) then
  bif decide (US a.nC k<0) then Y (-1)
  else Y (US a.nC k)
 else kf
def xf (a:ni) (k:Int):Bool:=ui false (fun _=>true) a k
def NT (a:ni) (k:Int):Int:=(ui none (fun r0=>some (r0)) a k).getD 0
theorem nfn (Y:Int→α) (a:ni) (k:Int) (aP:xf a k=true):ui kf Y a k=Y (NT a k):=by
 exact uo (K:=fun r:Int=>Y r) (oe (rC pP pP)) aP
def wz (Y:Int→Rows→α) (a:nB) (k:Int):α:=
 bif Ed true (PC 1 a.Table k) then
  Y ((sH a.Table k).1) ((sH a.Table k).2)
 else kf
def Ob (a:nB) (k:Int):Bool:=wz false (fun _ _=>true) a k
def Pk (a:nB) (k:Int):Int×Rows:=(wz none (fun r0 r1=>some (r0,r1)) a k).getD (0,[])
theorem nl1 (Y:Int→Rows→α) (a:nB) (k:Int) (aP:Ob a k=true):wz kf Y a k=Y (Pk a k).1 (Pk a k).2:=by
 exact uo (K:=fun r:Int×Rows=>Y r.1 r.2) (oe (fun _=>⟨_,rfl,rfl⟩)) aP
def wv (Y:Int→α) (a:nB) (k:Int):α:=
 bif Ed true (QW sn 1 a.Table k) then
  bif decide (rU a.Table k<0) then Y (-1)
  else Y (rU a.Table k)
 else kf
def NV (a:nB) (k:Int):Bool:=wv false (fun _=>true) a k
def U8 (a:nB) (k:Int):Int:=(wv none (fun r0=>some (r0)) a k).getD 0
theorem nlL (Y:Int→α) (a:nB) (k:Int) (aP:NV a k=true):wv kf Y a k=Y (U8 a k):=by
 exact uo (K:=fun r:Int=>Y r) (oe (rC pP pP)) aP
def vu (Y:Int→Rows→Rows→α) (a:nt) (k:Int):α:=
 let z0:Int×Rows:=Nq a.nK ((QC a.oq k).1)
 bif Ed true (S2 a.oq k) then
  bif Ed true (y9 sQ Ti a.nK ((QC a.oq k).1)) then
   Y z0.1 ((QC a.oq k).2) z0.2
  else kf
 else kf
def zz (a:nt) (k:Int):Bool:=vu false (fun _ _ _=>true) a k
def wC (a:nt) (k:Int):Int×Rows×Rows:=(vu none (fun r0 r1 r2=>some (r0,r1,r2)) a k).getD (0,[],[])
theorem nj5 (Y:Int→Rows→Rows→α) (a:nt) (k:Int) (aP:zz a k=true):vu kf Y a k=Y (wC a k).1 (wC a k).2.1 (wC a k).2.2:=by
 exact uo (K:=fun r:Int×Rows×Rows=>Y r.1 r.2.1 r.2.2) (oe (oe (fun _=>⟨_,rfl,rfl⟩))) aP
def vt (Y:Int→α) (a:nt) (k:Int):α:=
 let z0:Int:=Zl a.nK (U7 a.oq k)
 bif Ed true (SK a.oq k) then
  bif decide (U7 a.oq k<0) then Y (-1)
  else bif Ed true (ng5 a.nK (U7 a.oq k)) then
    bif decide (z0<0) then Y (-1)
    else Y z0
   else kf
 else kf
def zp (a:nt) (k:Int):Bool:=vt false (fun _=>true) a k
def SM (a:nt) (k:Int):Int:=(vt none (fun r0=>some (r0)) a k).getD 0
theorem njV (Y:Int→α) (a:nt) (k:Int) (aP:zp a k=true):vt kf Y a k=Y (SM a k):=by
 exact uo (K:=fun r:Int=>Y r) (oe (rC pP (oe (rC pP pP)))) aP
def uN (Y:Int→Rows→Rows→Rows→α) (a:nm) (k:Int):α:=
 let z0:Int×Rows:=wP a.Table ((Pz a.ot k).1)
 let z1:Int×Rows:=Pk a.nX z0.1
 bif Ed true (PC 9 a.ot k) then
  bif Ed true (xr a.Table ((Pz a.ot k).1)) then
   bif Ed true (Ob a.nX z0.1) then
    Y z1.1 ((Pz a.ot k).2) z0.2 z1.2
   else kf
  else kf
 else kf
def yu (a:nm) (k:Int):Bool:=uN false (fun _ _ _ _=>true) a k
def tz (a:nm) (k:Int):Int×Rows×Rows×Rows:=(uN none (fun r0 r1 r2 r3=>some (r0,r1,r2,r3)) a k).getD (0,[],[],[])
theorem nhz (Y:Int→Rows→Rows→Rows→α) (a:nm) (k:Int) (aP:yu a k=true):uN kf Y a k=Y (tz a k).1 (tz a k).2.1 (tz a k).2.2.1 (tz a k).2.2.2:=by
 exact uo (K:=fun r:Int×Rows×Rows×Rows=>Y r.1 r.2.1 r.2.2.1 r.2.2.2) (oe (oe (oe (fun _=>⟨_,rfl,rfl⟩)))) aP
def uM (Y:Int→α) (a:nm) (k:Int):α:=
 let z0:Int:=NT a.Table (Rf a.ot k)
 let z1:Int:=U8 a.nX z0
 bif Ed true (QW nbx 9 a.ot k) then
  bif decide (Rf a.ot k<0) then Y (-1)
  else bif Ed true (xf a.Table (Rf a.ot k)) then
    bif decide (z0<0) then Y (-1)
    else bif Ed true (NV a.nX z0) then
      bif decide (z1<0) then Y (-1)
      else Y z1
     else kf
   else kf
 else kf
def yj (a:nm) (k:Int):Bool:=uM false (fun _=>true) a k
def PR (a:nm) (k:Int):Int:=(uM none (fun r0=>some (r0)) a k).getD 0
theorem nho (Y:Int→α) (a:nm) (k:Int) (aP:yj a k=true):uM kf Y a k=Y (PR a k):=by
 exact uo (K:=fun r:Int=>Y r) (oe (rC pP (oe (rC pP (oe (rC pP pP)))))) aP
def yq (Y:Int→Rows→Rows→Rows→Rows→Rows→Rows→Rows→Rows→Rows→Rows→Rows→Rows→Rows→Rows→Rows→Rows→α) (a:ny) (k:Int):α:=
 let z0:Int×Rows:=Nm a.Maps ((x_ a.ox k).1)
 let z1:Int×Rows×Rows:=wC a.Tx z0.1
 let z2:Int:=z1.1
 let z3:Int×Rows:=Np a.Rx z2
 let z4:Int:=z3.1
 let z5:Int×Rows:=Nn a.og z4
 let z6:Int:=z5.1
 let z7:Int×Rows:=PB a.nS z6
 let z8:Int:=z7.1
 let z9:Int×Rows:=RR a.oQ z8
 let z10:Int:=z9.1
 let z11:Int×Rows:=Pj a.Filter z10
 let z12:Int:=z11.1
 let z13:Int×Rows×Rows×Rows:=tz a.nv z12
 let z14:Int:=z13.1
 let z15:Int×Rows:=PA a.pJ z14
 let z16:Int:=z15.1
 let z17:Int×Rows:=uW a.vM z16
 let z18:Int:=z17.1
 let z19:Int×Rows:=sH a.oF z18
 let z20:Int:=z19.1
 let z21:Int×Rows:=sH a.oY z20
 bif Ed true (Oa a.ox k) then
  bif Ed true (PC 4 a.Maps ((x_ a.ox k).1)) then
   bif Ed true (zz a.Tx z0.1) then
    bif Ed true (PC 30 a.Rx z2) then
     bif Ed true (y9 sP Th a.og z4) then
      bif Ed true (PC 6 a.nS z6) then
       bif Ed true (PC 1 a.oQ z8) then
        bif Ed true (N_ a.Filter z10) then
         bif Ed true (yu a.nv z12) then
          bif Ed true (PC 8 a.pJ z14) then
           bif Ed true (PC 1 a.vM z16) then
            bif Ed true (PC 1 a.oF z18) then
             bif Ed true (PC 1 a.oY z20) then
              Y z21.1 ((x_ a.ox k).2) z0.2 z1.2.1 z1.2.2 z3.2 z5.2 z7.2 z9.2 z11.2 z13.2.1 z13.2.2.1 z13.2.2.2 z15.2 z17.2 z19.2 z21.2
             else kf
            else kf
           else kf
          else kf
         else kf
        else kf
       else kf
      else kf
     else kf
    else kf
   else kf
  else kf
 else kf
def zy (a:ny) (k:Int):Bool:=yq false (fun _ _ _ _ _ _ _ _ _ _ _ _ _ _ _ _ _=>true) a k
def pK (a:ny) (k:Int):Int×Rows×Rows×Rows×Rows×Rows×Rows×Rows×Rows×Rows×Rows×Rows×Rows×Rows×Rows×Rows×Rows:=(yq none (fun r0 r1 r2 r3 r4 r5 r6 r7 r8 r9 r10 r11 r12 r13 r14 r15 r16=>some (r0,r1,r2,r3,r4,r5,r6,r7,r8,r9,r10,r11,r12,r13,r14,r15,r16)) a k).getD (0,[],[],[],[],[],[],[],[],[],[],[],[],[],[],[],[])
theorem nq2 (Y:Int→Rows→Rows→Rows→Rows→Rows→Rows→Rows→Rows→Rows→Rows→Rows→Rows→Rows→Rows→Rows→Rows→α) (a:ny) (k:Int) (aP:zy a k=true):yq kf Y a k=Y (pK a k).1 (pK a k).2.1 (pK a k).2.2.1 (pK a k).2.2.2.1 (pK a k).2.2.2.2.1 (pK a k).2.2.2.2.2.1 (pK a k).2.2.2.2.2.2.1 (pK a k).2.2.2.2.2.2.2.1 (pK a k).2.2.2.2.2.2.2.2.1 (pK a k).2.2.2.2.2.2.2.2.2.1 (pK a k).2.2.2.2.2.2.2.2.2.2.1 (pK a k).2.2.2.2.2.2.2.2.2.2.2.1 (pK a k).2.2.2.2.2.2.2.2.2.2.2.2.1 (pK a k).2.2.2.2.2.2.2.2.2.2.2.2.2.1 (pK a k).2.2.2.2.2.2.2.2.2.2.2.2.2.2.1 (pK a k).2.2.2.2.2.2.2.2.2.2.2.2.2.2.2.1 (pK a k).2.2.2.2.2.2.2.2.2.2.2.2.2.2.2.2:=by
 exact uo (K:=fun r:Int×Rows×Rows×Rows×Rows×Rows×Rows×Rows×Rows×Rows×Rows×Rows×Rows×Rows×Rows×Rows×Rows=>Y r.1 r.2.1 r.2.2.1 r.2.2.2.1 r.2.2.2.2.1 r.2.2.2.2.2.1 r.2.2.2.2.2.2.1 r.2.2.2.2.2.2.2.1 r.2.2.2.2.2.2.2.2.1 r.2.2.2.2.2.2.2.2.2.1 r.2.2.2.2.2.2.2.2.2.2.1 r.2.2.2.2.2.2.2.2.2.2.2.1 r.2.2.2.2.2.2.2.2.2.2.2.2.1 r.2.2.2.2.2.2.2.2.2.2.2.2.2.1 r.2.2.2.2.2.2.2.2.2.2.2.2.2.2.1 r.2.2.2.2.2.2.2.2.2.2.2.2.2.2.2.1 r.2.2.2.2.2.2.2.2.2.2.2.2.2.2.2.2) (oe (oe (oe (oe (oe (oe (oe (oe (oe (oe (oe (oe (oe (fun _=>⟨_,rfl,rfl⟩)))))))))))))) aP
def yo (Y:Int→α) (a:ny) (k:Int):α:=
 let z0:Int:=PO a.Maps (O5 a.ox k)
 let z1:Int:=SM a.Tx z0
 let z2:Int:=PQ a.Rx z1
 let z3:Int:=Zk a.og z2
 let z4:Int:=SN a.nS z3
 let z5:Int:=UR a.oQ z4
 let z6:Int:=U6 a.Filter z5
 let z7:Int:=PR a.nv z6
 let z8:Int:=SL a.pJ z7
 let z9:Int:=uS a.vM z8
 let z10:Int:=rU a.oF z9
 let z11:Int:=rU a.oY z10
 bif Ed true (NU a.ox k) then
  bif decide (O5 a.ox k<0) then Y (-1)
  else bif Ed true (QW zJ 4 a.Maps (O5 a.ox k)) then
    bif decide (z0<0) then Y (-1)
    else bif Ed true (zp a.Tx z0) then
      bif decide (z1<0) then Y (-1)
      else bif Ed true (QW zK 30 a.Rx z1) then
        bif decide (z2<0) then Y (-1)
        else bif Ed true (ng4 a.og z2) then
          bif decide (z3<0) then Y (-1)
          else bif Ed true (QW PL 6 a.nS z3) then
            bif decide (z4<0) then Y (-1)
            else bif Ed true (QW PJ 1 a.oQ z4) then
              bif decide (z5<0) then Y (-1)
              else bif Ed true (NS a.Filter z5) then
                bif decide (z6<0) then Y (-1)
                else bif Ed true (yj a.nv z6) then
                  bif decide (z7<0) then Y (-1)
                  else bif Ed true (QW PK 8 a.pJ z7) then
                    bif decide (z8<0) then Y (-1)
                    else bif Ed true (QW tc 1 a.vM z8) then
                      bif decide (z9<0) then Y (-1)
                      else bif Ed true (QW sn 1 a.oF z9) then
                        bif decide (z10<0) then Y (-1)
                        else bif Ed true (QW sn 1 a.oY z10) then
                          bif decide (z11<0) then Y (-1)
                          else Y z11
                         else kf
                       else kf
                     else kf
                   else kf
                 else kf
               else kf
             else kf
           else kf
         else kf
       else kf
     else kf
   else kf
 else kf
def Pv (a:ny) (k:Int):Bool:=yo false (fun _=>true) a k
def Zj (a:ny) (k:Int):Int:=(yo none (fun r0=>some (r0)) a k).getD 0
theorem nqW (Y:Int→α) (a:ny) (k:Int) (aP:Pv a k=true):yo kf Y a k=Y (Zj a k):=by
 exact uo (K:=fun r:Int=>Y r) (oe (rC pP (oe (rC pP (oe (rC pP (oe (rC pP (oe (rC pP (oe (rC pP (oe (rC pP (oe (rC pP (oe (rC pP (oe (rC pP (oe (rC pP (oe (rC pP (oe (rC pP pP)))))))))))))))))))))))))) aP
theorem nAI (x k:Bool):((bif x then k else false)=true)=(x=true∧k=true):=by cases x<;>simp
def xh (a:ny):Bool:=sm a.ox.nP && (sm a.Maps && (sm a.Tx.oq.qs && (QE a.Tx.nK && (sm a.Rx && (nbH a.og && (sm a.nS && (sm a.oQ && (sm a.Filter.pV && (sm a.nv.ot && (sm a.nv.Table.nC && (sm a.nv.nX.Table && (sm a.pJ && (sm a.vM && (sm a.oF && (sm a.oY)))))))))))))))
theorem nzl {a:ny} (h:tw a=true):xh a=true:=by
 simp only[tw,Sx,ve,OM,ux,Nk,tx,Sy,vd,OL,tX,y8,tD,xZ,vf,OR,ng,gy,nAI,aw,and_true,true_and,tP,uE,um,Sz,List.all_eq_true] at h
 simp only[xh,QE,nbH,aw,List.all_eq_true]
 obtain⟨h0,h1,⟨h2,h3,h4⟩,h5,⟨h6,h7⟩,h8,h9,h10,⟨h11,h12,h13⟩,h14,h15,h16,h17⟩:=h
 exact⟨h0,h1,h2,⟨h3,h4⟩,h5,⟨h6,h7⟩,h8,h9,h10,h11,h12,h13,h14,h15,h16,h17⟩
theorem nyT {a:ny} (h:xh a=true):∃(K:Int) (P0 P1 P2 P3 P4 P5 P6 P7 P8 P9 P10 P11 P12 P13 P14 P15:Rows),zy a 1=true∧pK a 1=(K,P0,P1,P2,P3,P4,P5,P6,P7,P8,P9,P10,P11,P12,P13,P14,P15)∧0≤K∧Pv (⟨⟨P0⟩,P1,⟨a.Tx.Ring,⟨a.Tx.oq.qk,a.Tx.oq.nO,a.Tx.oq.Count,P2⟩,P3,a.Tx.Next⟩,P4,P5,P6,P7,⟨a.Filter.Mac,a.Filter.pI,P8⟩,⟨P9,⟨P10⟩,⟨a.nv.nX.Key,P11⟩⟩,P12,a.qe,P13,P14,P15,a.Counters⟩:ny) 1=true∧Zj (⟨⟨P0⟩,P1,⟨a.Tx.Ring,⟨a.Tx.oq.qk,a.Tx.oq.nO,a.Tx.oq.Count,P2⟩,P3,a.Tx.Next⟩,P4,P5,P6,P7,⟨a.Filter.Mac,a.Filter.pI,P8⟩,⟨P9,⟨P10⟩,⟨a.nv.nX.Key,P11⟩⟩,P12,a.qe,P13,P14,P15,a.Counters⟩:ny) 1=K:=by
 simp only[xh,aw] at h
 obtain⟨s0,s1,s2,s3,s4,s5,s6,s7,s8,s9,s10,s11,s12,s13,s14,s15⟩:=h
 have l0:=uy s0
 obtain⟨K0,hK0⟩:∃K:Int,K=1+1*(a.ox.nP.length:Int):=⟨_,rfl⟩
 have o0:PC 1 a.ox.nP 1=true:=zA s0 (by omega) (by omega)
 have e0:uW a.ox.nP 1=(K0,(vL tc 1 a.ox.nP.length 1)):=by rw[hK0];rfl
 have q0:QW tc 1 (vL tc 1 a.ox.nP.length 1) 1=true:=PN s0 (by omega) (by omega)
 have g0:uS (vL tc 1 a.ox.nP.length 1) 1=K0:=by rw[hK0];simp only[uS,qq]
 have b0:0≤K0∧K0≤16777217:=by omega
 have z0:¬K0<0:=by omega
 clear hK0
 have l1:=uy s1
 obtain⟨K1,hK1⟩:∃K:Int,K=K0+4*(a.Maps.length:Int):=⟨_,rfl⟩
 have o1:PC 4 a.Maps K0=true:=zA s1 (by omega) (by omega)
 have e1:Nm a.Maps K0=(K1,(vL zJ 4 a.Maps.length K0)):=by rw[hK1];rfl
 have q1:QW zJ 4 (vL zJ 4 a.Maps.length K0) K0=true:=PN s1 (by omega) (by omega)
 have g1:PO (vL zJ 4 a.Maps.length K0) K0=K1:=by rw[hK1];simp only[PO,qq]
 have b1:0≤K1∧K1≤83886081:=by omega
 have z1:¬K1<0:=by omega
 clear hK1
 have l2:=uy s2
 obtain⟨K2,hK2⟩:∃K:Int,K=K1+1*(a.Tx.oq.qs.length:Int):=⟨_,rfl⟩
 have o2:PC 1 a.Tx.oq.qs K1=true:=zA s2 (by omega) (by omega)
 have e2:sH a.Tx.oq.qs K1=(K2,(vL sn 1 a.Tx.oq.qs.length K1)):=by rw[hK2];rfl
 have q2:QW sn 1 (vL sn 1 a.Tx.oq.qs.length K1) K1=true:=PN s2 (by omega) (by omega)
 have g2:rU (vL sn 1 a.Tx.oq.qs.length K1) K1=K2:=by rw[hK2];simp only[rU,qq]
 have b2:0≤K2∧K2≤100663297:=by omega
 have z2:¬K2<0:=by omega
 clear hK2
 obtain⟨o3,q3,g3,u3,v3⟩:=nzW s3 (k:=K2) (by omega) (by omega)
 obtain⟨K3,hK3⟩:∃K:Int,K=(S4 sQ a.Tx.nK K2).2:=⟨_,rfl⟩
 have e3:Nq a.Tx.nK K2=(K3,(S4 sQ a.Tx.nK K2).1):=by rw[hK3];rfl
 have g3:Zl (S4 sQ a.Tx.nK K2).1 K2=K3:=by rw[hK3];exact g3
 rw[←hK3] at u3 v3
 have b3:0≤K3∧K3≤281475211591681:=by omega
 have z3:¬K3<0:=by omega
 clear hK3
 have l4:=uy s4
 obtain⟨K4,hK4⟩:∃K:Int,K=K3+30*(a.Rx.length:Int):=⟨_,rfl⟩
 have o4:PC 30 a.Rx K3=true:=zA s4 (by omega) (by omega)
 have e4:Np a.Rx K3=(K4,(vL zK 30 a.Rx.length K3)):=by rw[hK4];rfl
 have q4:QW zK 30 (vL zK 30 a.Rx.length K3) K3=true:=PN s4 (by omega) (by omega)
 have g4:PQ (vL zK 30 a.Rx.length K3) K3=K4:=by rw[hK4];simp only[PQ,qq]
 have b4:0≤K4∧K4≤281475714908161:=by omega
 have z4:¬K4<0:=by omega
 clear hK4
 obtain⟨o5,q5,g5,u5,v5⟩:=nzV s5 (k:=K4) (by omega) (by omega)
 obtain⟨K5,hK5⟩:∃K:Int,K=(S4 sP a.og K4).2:=⟨_,rfl⟩
 have e5:Nn a.og K4=(K5,(S4 sP a.og K4).1):=by rw[hK5];rfl
 have g5:Zk (S4 sP a.og K4).1 K4=K5:=by rw[hK5];exact g5
 rw[←hK5] at u5 v5
 have b5:0≤K5∧K5≤562950825836545:=by omega
 have z5:¬K5<0:=by omega
 clear hK5
 have l6:=uy s6
 obtain⟨K6,hK6⟩:∃K:Int,K=K5+6*(a.nS.length:Int):=⟨_,rfl⟩
 have o6:PC 6 a.nS K5=true:=zA s6 (by omega) (by omega)
 have e6:PB a.nS K5=(K6,(vL PL 6 a.nS.length K5)):=by rw[hK6];rfl
 have q6:QW PL 6 (vL PL 6 a.nS.length K5) K5=true:=PN s6 (by omega) (by omega)
 have g6:SN (vL PL 6 a.nS.length K5) K5=K6:=by rw[hK6];simp only[SN,qq]
 have b6:0≤K6∧K6≤562950926499841:=by omega
 have z6:¬K6<0:=by omega
 clear hK6
 have l7:=uy s7
 obtain⟨K7,hK7⟩:∃K:Int,K=K6+1*(a.oQ.length:Int):=⟨_,rfl⟩
 have o7:PC 1 a.oQ K6=true:=zA s7 (by omega) (by omega)
 have e7:RR a.oQ K6=(K7,(vL PJ 1 a.oQ.length K6)):=by rw[hK7];rfl
 have q7:QW PJ 1 (vL PJ 1 a.oQ.length K6) K6=true:=PN s7 (by omega) (by omega)
 have g7:UR (vL PJ 1 a.oQ.length K6) K6=K7:=by rw[hK7];simp only[UR,qq]
 have b7:0≤K7∧K7≤562950943277057:=by omega
 have z7:¬K7<0:=by omega
 clear hK7
 have l8:=uy s8
 obtain⟨K8,hK8⟩:∃K:Int,K=K7+1*(a.Filter.pV.length:Int):=⟨_,rfl⟩
 have o8:PC 1 a.Filter.pV K7=true:=zA s8 (by omega) (by omega)
 have e8:sH a.Filter.pV K7=(K8,(vL sn 1 a.Filter.pV.length K7)):=by rw[hK8];rfl
 have q8:QW sn 1 (vL sn 1 a.Filter.pV.length K7) K7=true:=PN s8 (by omega) (by omega)
 have g8:rU (vL sn 1 a.Filter.pV.length K7) K7=K8:=by rw[hK8];simp only[rU,qq]
 have b8:0≤K8∧K8≤562950960054273:=by omega
 have z8:¬K8<0:=by omega
 clear hK8
 have l9:=uy s9
 obtain⟨K9,hK9⟩:∃K:Int,K=K8+9*(a.nv.ot.length:Int):=⟨_,rfl⟩
 have o9:PC 9 a.nv.ot K8=true:=zA s9 (by omega) (by omega)
 have e9:Pz a.nv.ot K8=(K9,(vL nbx 9 a.nv.ot.length K8)):=by rw[hK9];rfl
 have q9:QW nbx 9 (vL nbx 9 a.nv.ot.length K8) K8=true:=PN s9 (by omega) (by omega)
 have g9:Rf (vL nbx 9 a.nv.ot.length K8) K8=K9:=by rw[hK9];simp only[Rf,qq]
 have b9:0≤K9∧K9≤562951111049217:=by omega
 have z9:¬K9<0:=by omega
 clear hK9
 have l10:=uy s10
 obtain⟨K10,nAJ⟩:∃K:Int,K=K9+7*(a.nv.Table.nC.length:Int):=⟨_,rfl⟩
 have o10:PC 7 a.nv.Table.nC K9=true:=zA s10 (by omega) (by omega)
 have e10:RS a.nv.Table.nC K9=(K10,(vL nby 7 a.nv.Table.nC.length K9)):=by rw[nAJ];rfl
 have q10:QW nby 7 (vL nby 7 a.nv.Table.nC.length K9) K9=true:=PN s10 (by omega) (by omega)
 have g10:US (vL nby 7 a.nv.Table.nC.length K9) K9=K10:=by rw[nAJ];simp only[US,qq]
 have b10:0≤K10∧K10≤562951228489729:=by omega
 have z10:¬K10<0:=by omega
 clear nAJ
 have l11:=uy s11
 obtain⟨K11,nAK⟩:∃K:Int,K=K10+1*(a.nv.nX.Table.length:Int):=⟨_,rfl⟩
 have o11:PC 1 a.nv.nX.Table K10=true:=zA s11 (by omega) (by omega)
 have e11:sH a.nv.nX.Table K10=(K11,(vL sn 1 a.nv.nX.Table.length K10)):=by rw[nAK];rfl
 have q11:QW sn 1 (vL sn 1 a.nv.nX.Table.length K10) K10=true:=PN s11 (by omega) (by omega)
 have g11:rU (vL sn 1 a.nv.nX.Table.length K10) K10=K11:=by rw[nAK];simp only[rU,qq]
 have b11:0≤K11∧K11≤562951245266945:=by omega
 have z11:¬K11<0:=by omega
 clear nAK
 have l12:=uy s12
 obtain⟨K12,nAL⟩:∃K:Int,K=K11+8*(a.pJ.length:Int):=⟨_,rfl⟩
 have o12:PC 8 a.pJ K11=true:=zA s12 (by omega) (by omega)
 have e12:PA a.pJ K11=(K12,(vL PK 8 a.pJ.length K11)):=by rw[nAL];rfl
 have q12:QW PK 8 (vL PK 8 a.pJ.length K11) K11=true:=PN s12 (by omega) (by omega)
 have g12:SL (vL PK 8 a.pJ.length K11) K11=K12:=by rw[nAL];simp only[SL,qq]
 have b12:0≤K12∧K12≤562951379484673:=by omega
 have z12:¬K12<0:=by omega
 clear nAL
 have l13:=uy s13
 obtain⟨K13,nAM⟩:∃K:Int,K=K12+1*(a.vM.length:Int):=⟨_,rfl⟩
 have o13:PC 1 a.vM K12=true:=zA s13 (by omega) (by omega)
 have e13:uW a.vM K12=(K13,(vL tc 1 a.vM.length K12)):=by rw[nAM];rfl
 have q13:QW tc 1 (vL tc 1 a.vM.length K12) K12=true:=PN s13 (by omega) (by omega)
 have g13:uS (vL tc 1 a.vM.length K12) K12=K13:=by rw[nAM];simp only[uS,qq]
 have b13:0≤K13∧K13≤562951396261889:=by omega
 have z13:¬K13<0:=by omega
 clear nAM
 have l14:=uy s14
 obtain⟨K14,nAN⟩:∃K:Int,K=K13+1*(a.oF.length:Int):=⟨_,rfl⟩
 have o14:PC 1 a.oF K13=true:=zA s14 (by omega) (by omega)
 have e14:sH a.oF K13=(K14,(vL sn 1 a.oF.length K13)):=by rw[nAN];rfl
 have q14:QW sn 1 (vL sn 1 a.oF.length K13) K13=true:=PN s14 (by omega) (by omega)
 have g14:rU (vL sn 1 a.oF.length K13) K13=K14:=by rw[nAN];simp only[rU,qq]
 have b14:0≤K14∧K14≤562951413039105:=by omega
 have z14:¬K14<0:=by omega
 clear nAN
 have l15:=uy s15
 obtain⟨K15,nAO⟩:∃K:Int,K=K14+1*(a.oY.length:Int):=⟨_,rfl⟩
 have o15:PC 1 a.oY K14=true:=zA s15 (by omega) (by omega)
 have e15:sH a.oY K14=(K15,(vL sn 1 a.oY.length K14)):=by rw[nAO];rfl
 have q15:QW sn 1 (vL sn 1 a.oY.length K14) K14=true:=PN s15 (by omega) (by omega)
 have g15:rU (vL sn 1 a.oY.length K14) K14=K15:=by rw[nAO];simp only[rU,qq]
 have b15:0≤K15∧K15≤562951429816321:=by omega
 have z15:¬K15<0:=by omega
 clear nAO
 refine⟨K15,(vL tc 1 a.ox.nP.length 1),(vL zJ 4 a.Maps.length K0),(vL sn 1 a.Tx.oq.qs.length K1),(S4 sQ a.Tx.nK K2).1,(vL zK 30 a.Rx.length K3),(S4 sP a.og K4).1,(vL PL 6 a.nS.length K5),(vL PJ 1 a.oQ.length K6),(vL sn 1 a.Filter.pV.length K7),(vL nbx 9 a.nv.ot.length K8),(vL nby 7 a.nv.Table.nC.length K9),(vL sn 1 a.nv.nX.Table.length K10),(vL PK 8 a.pJ.length K11),(vL tc 1 a.vM.length K12),(vL sn 1 a.oF.length K13),(vL sn 1 a.oY.length K14), ?_, ?_,by omega, ?_, ?_⟩
 ·simp only[Oa,x_,wy,S2,QC,yr,N_,Pj,wx,xr,wP,uj,Ob,Pk,wz,zz,wC,vu,yu,tz,uN,zy,pK,yq,Option.getD_some,e0,e1,e2,e3,e4,e5,e6,e7,e8,e9,e10,e11,e12,e13,e14,e15,o0,o1,o2,o3,o4,o5,o6,o7,o8,o9,o10,o11,o12,o13,o14,o15,ng,nr,aj]
 ·simp only[Oa,x_,wy,S2,QC,yr,N_,Pj,wx,xr,wP,uj,Ob,Pk,wz,zz,wC,vu,yu,tz,uN,zy,pK,yq,e0,e1,e2,e3,e4,e5,e6,e7,e8,e9,e10,e11,e12,e13,e14,e15,o0,o1,o2,o3,o4,o5,o6,o7,o8,o9,o10,o11,o12,o13,o14,o15,ng,nr,aj,Option.getD_some]
 ·simp only[NU,O5,wu,SK,U7,yp,NS,U6,wq,xf,NT,ui,NV,U8,wv,zp,SM,vt,yj,PR,uM,Pv,Zj,yo,Option.getD_some,g0,g1,g2,g3,g4,g5,g6,g7,g8,g9,g10,g11,g12,g13,g14,g15,q0,q1,q2,q3,q4,q5,q6,q7,q8,q9,q10,q11,q12,q13,q14,q15,z0,z1,z2,z3,z4,z5,z6,z7,z8,z9,z10,z11,z12,z13,z14,z15,decide_false,aQ,ng,nr,aj]
 ·simp only[NU,O5,wu,SK,U7,yp,NS,U6,wq,xf,NT,ui,NV,U8,wv,zp,SM,vt,yj,PR,uM,Pv,Zj,yo,g0,g1,g2,g3,g4,g5,g6,g7,g8,g9,g10,g11,g12,g13,g14,g15,q0,q1,q2,q3,q4,q5,q6,q7,q8,q9,q10,q11,q12,q13,q14,q15,z0,z1,z2,z3,z4,z5,z6,z7,z8,z9,z10,z11,z12,z13,z14,z15,decide_false,aQ,ng,nr,aj,Option.getD_some]
theorem foldl_push (q:List DC→List DC):∀(l o:Rows),l.foldl (fun o r=>o++[q r]) o=o++l.map q
 | [],o=>by simp
 | r::l,o=>by rw[List.foldl_cons,foldl_push q l,List.map_cons,List.append_assoc];rfl
def UN (Y:Bool→α) (x:Rows) (oy q_5 q_6 q_7:Int) (q_8:Rows) (ov:Int→Int→Rows→α) (left oD:Int) (all:Rows):α:=
 bif decide (oD<oy) then
  bif Ed true (idx oD x) then
   bif bif decide (rI (nth x (Int.toNat oD)) 1<1) then true else bif decide (left<rI (nth x (Int.toNat oD)) 1) then true else !(nf (rI (nth x (Int.toNat oD)) 0) 0 65535) then Y false
   else bif Ed true (qx 8 all (rR (nth x (Int.toNat oD)) 2)) then
     ov (nL (left - (rI (nth x (Int.toNat oD)) 1))) (nL (oD+1)) (all++(rR (nth x (Int.toNat oD)) 2))
    else kf
  else kf
 else bif Ed true (Zi (⟨q_5,q_6,q_7,q_8⟩:nJ) all) then
   Y ((rZ (⟨q_5,q_6,q_7,q_8⟩:nJ) all).2)
  else kf
def xT (Y:Bool→α) (N:Nat) (x:Rows) (oy q_5 q_6 q_7:Int) (q_8:Rows) (m_:Nat):Int→Int→Rows→α:=
 Nat.rec (motive:=fun _=>Int→Int→Rows→α) (fun _ _ _=>kf) (fun _ ov=>UN kf Y x oy q_5 q_6 q_7 q_8 ov) m_
theorem ne1 (Y:Bool→α) (N:Nat) (x:Rows) (oy q_5 q_6 q_7:Int) (q_8:Rows) (m_:Nat):xT kf Y N x oy q_5 q_6 q_7 q_8 (m_+1)=UN kf Y x oy q_5 q_6 q_7 q_8 (xT kf Y N x oy q_5 q_6 q_7 q_8 m_):=rfl
def ne2 (kf:α) (Y:Bool→α) (l0:Rows→Int→Int→Int→Int→Rows→Int→Int→Rows→α) (q:nt):α:=
 bif bif !(ud q.Ring) then true else bif !(tR q.oq) then true else !(nf q.Next 0 65535) then Y false
 else l0 q.nK (len q.nK) q.oq.qk q.oq.nO q.oq.Count q.oq.qs q.Ring.nO 0 []
def npI (Y:Bool→α) (N:Nat) (q:nt):α:=ne2 kf Y (fun x oy q_5 q_6 q_7 q_8=>xT kf Y N x oy q_5 q_6 q_7 q_8 N) q
def nsN:Rows→Nat
 | []=>0
 | r::rs=>(rR r 2).length+nsN rs
def Sd:Rows→Rows
 | []=>[]
 | r::rs=>rR r 2++Sd rs
def Tb:Rows→Int
 | []=>0
 | r::rs=>rI r 1+Tb rs
def T0 (q:nt):Bool:=decide (q.oq.qs.length≤1048576) && (sm q.nK && decide (nsN q.nK≤1048576))
theorem ny2 {q:nt} (h:T0 q=true):sm q.oq.qs=true∧q.nK.length≤16777216∧nsN q.nK≤16777216:=by
 simp only[T0,aw,eX] at h
 exact⟨Lu (by omega),uy h.2.1,by omega⟩
def xv (n:Int) (r:List DC):Bool:=bif nf (rI r 1) 1 n then nf (rI r 0) 0 65535 else false
def ng_ (q:nt):Bool:=bif bif !(ud q.Ring) then true else bif !(tR q.oq) then true else !(nf q.Next 0 65535) then false
 else bif q.nK.all (xv q.Ring.nO) then bif (rZ q.oq (Sd q.nK)).2 then decide (Tb q.nK≤q.Ring.nO) else false else false
theorem drop_cons {l:Rows} {i:Nat} (h:i<l.length):l.drop i=nth l i::l.drop (i+1):=by
 rw[List.drop_eq_getElem_cons h]
 simp [nth,List.getD_eq_getElem?_getD,h]
theorem ng1 {l:Rows} {i:Nat} (h:i<l.length):nsN (l.drop i)=(rR (nth l i) 2).length+nsN (l.drop (i+1)):=by
 rw[drop_cons h]
 rfl
def txP (n:Int) (r:List DC) (_:Int×Rows):Bool:= !(xv n r)
def txF (r:List DC) (s:Int×Rows):Int×Rows:=(s.1+rI r 1,s.2++rR r 2)
def txQ (r:List DC) (s:Int×Rows):Bool:=bif decide (rI r 1<1) then true else bif decide (s.1<rI r 1) then true else !(nf (rI r 0) 0 65535)
def txG (r:List DC) (s:Int×Rows):Int×Rows:=(s.1 - rI r 1,s.2++rR r 2)
theorem nz_ (n:Int) (x:α) (fin:Int×Rows→α):∀(l:Rows) (s:Int×Rows),UI (txP n) txF x fin l s=bif l.all (xv n) then fin (s.1+Tb l,s.2++Sd l) else x
 | [],s=>by simp [UI,Tb,Sd]
 | r::rs,s=>by
  simp only[UI,txP,List.all_cons]
  cases hs:xv n r
  ·rfl
  ·rw[nz_ n x fin rs]
   simp only[Bool.not_true,aQ,Bool.true_and,txF,Tb,Sd,Int.add_assoc,List.append_assoc]
theorem R3 {n:Int} {r:List DC} :xv n r=true↔(1≤rI r 1∧rI r 1≤n)∧nf (rI r 0) 0 65535=true:=by
 unfold xv
 cases h:nf (rI r 1) 1 n
 ·constructor
  ·intro h;cases h
  ·intro h'
   have:nf (rI r 1) 1 n=true:=nZ.2 h'.1
   rw[h] at this
   cases this
 ·have:=nZ.1 h
  simp only[aj]
  exact⟨fun h'=>⟨this,h'⟩,fun h'=>h'.2⟩
theorem nmU {n:Int} :∀ {l:Rows},l.all (xv n)=true→0≤Tb l
 | [],_=>by simp [Tb]
 | r::rs,h=>by
  simp only[List.all_cons,aw] at h
  have:=nmU h.2
  have:=(R3.1 h.1).1
  simp only[Tb]
  omega
theorem ny1 (n:Int) (x:α) (fin:Rows→α):∀(l:Rows) (s:Int×Rows),s.1≤n→0≤s.1→UI txQ txG x (fun s=>fin s.2) l s=bif l.all (xv n) then bif decide (Tb l≤s.1) then fin (s.2++Sd l) else x else x
 | [],s,h1,h2=>by
  have:decide (Tb []≤s.1)=true:=Lu h2
  simp only[UI,List.all_nil,aj,Sd,List.append_nil,this]
 | r::rs,s,h1,h2=>by
  simp only[UI,List.all_cons]
  by_cases a1:rI r 1<1
  ·have e:xv n r=false:=by
    cases hs:xv n r
    ·rfl
    ·have:=(R3.1 hs).1;omega
   rw[e]
   simp only[txQ,Lu a1,aj,Bool.false_and,aQ]
  ·cases hb:nf (rI r 0) 0 65535
   ·have e:xv n r=false:=by
     cases hs:xv n r
     ·rfl
     ·have:=(R3.1 hs).2;rw[hb] at this;cases this
    rw[e]
    have:txQ r s=true:=by
     simp only[txQ,Lt a1,hb,aQ,Bool.not_false]
     cases decide (s.1<rI r 1)<;>rfl
    rw[this]
    rfl
   ·by_cases a2:s.1<rI r 1
    ·have:txQ r s=true:=by simp only[txQ,Lt a1,Lu a2,aQ,aj]
     rw[this,aj]
     cases hr:(xv n r && rs.all (xv n))
     ·rfl
     ·simp only[aw] at hr
      have:=nmU hr.2
      rw[aj,Lt (by simp only[Tb];omega)]
      rfl
    ·have:txQ r s=false:=by simp only[txQ,Lt a1,Lt a2,hb,aQ,Bool.not_true]
     have e:xv n r=true:=R3.2 ⟨⟨by omega,by omega⟩,hb⟩
     rw[this,aQ,e,Bool.true_and]
     have ih:=ny1 n x fin rs (txG r s) (by simp only[txG];omega) (by simp only[txG];omega)
     rw[ih]
     have ed:decide (Tb rs≤(txG r s).1)=decide (Tb (r::rs)≤s.1):=by
      have:Tb rs≤(txG r s).1↔Tb (r::rs)≤s.1:=by simp only[txG,Tb];omega
      exact decide_eq_decide.2 this
     rw[ed]
     simp only[txG,Sd,List.append_assoc]
theorem nxP (Y:Bool→α) (q:nt) (h_q:kd nt.ct q.enc) (aP:T0 q=true):∃N,npI kf Y N q=Y (ng_ q):=by
 have hq:T0 q=true:=aP
 obtain⟨hf,hwn,hbn⟩:=ny2 hq
 obtain⟨hl,hw⟩:=oG (nt.Sb h_q)
 refine⟨q.nK.length+1, ?_⟩
 unfold npI ne2 ng_
 refine oA (fun _=>rfl) (fun hg=> ?_)
 have hn:2≤q.Ring.nO∧q.Ring.nO≤16:=by
  cases h1:ud q.Ring
  ·rw[h1] at hg;cases hg
  exact SI h1
 have nAQ:∀all:Rows,all.length≤16777216→Zi q.oq all=true:=by
  intro all h
  have:=uy hf
  simp only[Zi,hf,Bool.true_and,eX]
  omega
 have key:xT kf Y (q.nK.length+1) q.nK (len q.nK) q.oq.qk q.oq.nO q.oq.Count q.oq.qs (q.nK.length+1) q.Ring.nO 0 []=UI txQ txG (Y false) (fun s=>Y (rZ q.oq s.2).2) q.nK (q.Ring.nO,[]):=by
  refine nmu q.nK (fun n i (s:Int×Rows)=>xT kf Y (q.nK.length+1) q.nK (len q.nK) q.oq.qk q.oq.nO q.oq.Count q.oq.qs n s.1 i s.2) txQ txG (Y false) (fun s=>Y (rZ q.oq s.2).2) (fun i s=>0≤s.1∧s.1≤16∧s.2.length+nsN (q.nK.drop i)≤16777216) ?_ ?_ ?_ (q.Ring.nO,[]) ⟨by omega,by omega,by simpa using hbn⟩
  ·intro i s h hi hp
   have hb:=ng1 h
   obtain⟨i1,i2,i3⟩:=hi
   have h1:¬rI (nth q.nK i) 1<1:=by
    intro hc;simp only[txQ,Lu hc,aj] at hp;cases hp
   have h2:¬s.1<rI (nth q.nK i) 1:=by
    intro hc;simp only[txQ,Lt h1,Lu hc,aj,aQ] at hp;cases hp
   refine⟨by simp only[txG];omega,by simp only[txG];omega, ?_⟩
   simp only[txG,fv]
   omega
  ·intro n i s h hi
   obtain⟨i1,i2,i3⟩:=hi
   have hb:=ng1 h
   show xT kf Y (q.nK.length+1) q.nK (len q.nK) q.oq.qk q.oq.nO q.oq.Count q.oq.qs (n+1) s.1 (i:Int) s.2=_
   rw[ne1]
   have hr:qx 8 s.2 (rR (nth q.nK i) 2)=true:=Oc (by omega) (by omega)
   simp only[UN,oU h,nR h,ou h hl,J6,ng,nr,aj,hr]
   refine cond_congr rfl (fun _=>rfl) (fun hp=> ?_)
   have h1:¬rI (nth q.nK i) 1<1:=by
    intro hc;simp only[Lu hc,aj] at hp;cases hp
   have h2:¬s.1<rI (nth q.nK i) 1:=by
    intro hc;simp only[Lt h1,Lu hc,aj,aQ] at hp;cases hp
   rw[nF (n:=s.1 - rI (nth q.nK i) 1) (by omega) (by omega)]
   rfl
  ·intro n s hi
   obtain⟨i1,i2,i3⟩:=hi
   show xT kf Y (q.nK.length+1) q.nK (len q.nK) q.oq.qk q.oq.nO q.oq.Count q.oq.qs (n+1) s.1 (q.nK.length:Int) s.2=_
   rw[ne1]
   have hg:Zi (⟨q.oq.qk,q.oq.nO,q.oq.Count,q.oq.qs⟩:nJ) s.2=true:=nAQ s.2 (by omega)
   simp only[UN,nQ,aQ,hg,ng,aj]
 refine key.trans ?_
 refine (ny1 q.Ring.nO (Y false) (fun all=>Y (rZ q.oq all).2) q.nK (q.Ring.nO,[]) (by simp) (by show 0≤q.Ring.nO;omega)).trans ?_
 simp only[List.nil_append]
 cases q.nK.all (xv q.Ring.nO)
 ·rfl
 ·cases hd:decide (Tb q.nK≤q.Ring.nO)
  ·simp only[aj,aQ]
   cases (rZ q.oq (Sd q.nK)).2<;>rfl
  ·simp only[aj]
   cases (rZ q.oq (Sd q.nK)).2<;>rfl
def UQ (Y:Bool→α) (q_2 q_5 q_6 q_7:Int) (q_8 Y9:Rows) (ov:Int→Int→Rows→α) (cl k:Int) (all:Rows):α:=
 bif decide (k<len Y9) then
  bif Ed true (idx k Y9) then
   bif bif !(nf (rI (nth Y9 (Int.toNat k)) 1) 1 q_2) then true else !(nf (rI (nth Y9 (Int.toNat k)) 0) 0 65535) then Y false
   else bif Ed true (qx 8 all (rR (nth Y9 (Int.toNat k)) 2)) then
     ov (nL (cl+(rI (nth Y9 (Int.toNat k)) 1))) (nL (k+1)) (all++(rR (nth Y9 (Int.toNat k)) 2))
    else kf
  else kf
 else bif Ed true (Zi (⟨q_5,q_6,q_7,q_8⟩:nJ) all) then
   Y (bif (rZ (⟨q_5,q_6,q_7,q_8⟩:nJ) all).2 then decide (cl≤q_2) else false)
  else kf
def yh (Y:Bool→α) (N:Nat) (q_2 q_5 q_6 q_7:Int) (q_8 Y9:Rows) (m_:Nat):Int→Int→Rows→α:=
 Nat.rec (motive:=fun _=>Int→Int→Rows→α) (fun _ _ _=>kf) (fun _ ov=>UQ kf Y q_2 q_5 q_6 q_7 q_8 Y9 ov) m_
theorem ngq (Y:Bool→α) (N:Nat) (q_2 q_5 q_6 q_7:Int) (q_8 Y9:Rows) (m_:Nat):yh kf Y N q_2 q_5 q_6 q_7 q_8 Y9 (m_+1)=UQ kf Y q_2 q_5 q_6 q_7 q_8 Y9 (yh kf Y N q_2 q_5 q_6 q_7 q_8 Y9 m_):=rfl
def ngr (kf:α) (Y:Bool→α) (l0:Int→Int→Int→Int→Rows→Rows→Int→Int→Rows→α) (q:nt):α:=
 bif bif !(ud q.Ring) then true else bif !(tR q.oq) then true else !(nf q.Next 0 65535) then Y false
 else l0 q.Ring.nO q.oq.qk q.oq.nO q.oq.Count q.oq.qs q.nK 0 0 []
def npP (Y:Bool→α) (N:Nat) (q:nt):α:=ngr kf Y (fun q_2 q_5 q_6 q_7 q_8 Y9=>yh kf Y N q_2 q_5 q_6 q_7 q_8 Y9 N) q
theorem nx6 (Y:Bool→α) (q:nt) (h_q:kd nt.ct q.enc) (aP:T0 q=true):∃N,npP kf Y N q=Y (ng_ q):=by
 have hq:T0 q=true:=aP
 obtain⟨hf,hwn,hbn⟩:=ny2 hq
 obtain⟨hl,hw⟩:=oG (nt.Sb h_q)
 refine⟨q.nK.length+1, ?_⟩
 unfold npP ngr ng_
 refine oA (fun _=>rfl) (fun hg=> ?_)
 have hn:2≤q.Ring.nO∧q.Ring.nO≤16:=by
  cases h1:ud q.Ring
  ·rw[h1] at hg;cases hg
  exact SI h1
 have nAQ:∀all:Rows,all.length≤16777216→Zi q.oq all=true:=by
  intro all h
  have:=uy hf
  simp only[Zi,hf,Bool.true_and,eX]
  omega
 have key:yh kf Y (q.nK.length+1) q.Ring.nO q.oq.qk q.oq.nO q.oq.Count q.oq.qs q.nK (q.nK.length+1) 0 0 []=UI (txP q.Ring.nO) txF (Y false) (fun s=>Y (bif (rZ q.oq s.2).2 then decide (s.1≤q.Ring.nO) else false)) q.nK (0,[]):=by
  refine nmu q.nK (fun n i (s:Int×Rows)=>yh kf Y (q.nK.length+1) q.Ring.nO q.oq.qk q.oq.nO q.oq.Count q.oq.qs q.nK n s.1 i s.2) (txP q.Ring.nO) txF (Y false) (fun s=>Y (bif (rZ q.oq s.2).2 then decide (s.1≤q.Ring.nO) else false)) (fun i s=>0≤s.1∧s.1≤16*(i:Int)∧s.2.length+nsN (q.nK.drop i)≤16777216) ?_ ?_ ?_ (0,[]) ⟨by simp,by simp,by simpa using hbn⟩
  ·intro i s h hi hp
   have hb:=ng1 h
   obtain⟨i1,i2,i3⟩:=hi
   have h1:xv q.Ring.nO (nth q.nK i)=true:=by simpa [txP] using hp
   have h2:=(R3.1 h1).1
   refine⟨by simp only[txF];omega,by simp only[txF];omega, ?_⟩
   simp only[txF,fv]
   omega
  ·intro n i s h hi
   obtain⟨i1,i2,i3⟩:=hi
   have hb:=ng1 h
   show yh kf Y (q.nK.length+1) q.Ring.nO q.oq.qk q.oq.nO q.oq.Count q.oq.qs q.nK (n+1) s.1 (i:Int) s.2=_
   rw[ngq]
   have hr:qx 8 s.2 (rR (nth q.nK i) 2)=true:=Oc (by omega) (by omega)
   simp only[UQ,oU h,nR h,ou h hl,J6,ng,nr,aj,hr,txP]
   have hc:(bif !(nf (rI (nth q.nK i) 1) 1 q.Ring.nO) then true else !(nf (rI (nth q.nK i) 0) 0 65535))= !(xv q.Ring.nO (nth q.nK i)):=by
    unfold xv
    cases nf (rI (nth q.nK i) 1) 1 q.Ring.nO<;>rfl
   rw[hc]
   refine cond_congr rfl (fun _=>rfl) (fun hp=> ?_)
   have h1:xv q.Ring.nO (nth q.nK i)=true:=by simpa using hp
   have h2:=(R3.1 h1).1
   rw[nF (n:=s.1+rI (nth q.nK i) 1) (by omega) (by omega)]
   rfl
  ·intro n s hi
   obtain⟨i1,i2,i3⟩:=hi
   show yh kf Y (q.nK.length+1) q.Ring.nO q.oq.qk q.oq.nO q.oq.Count q.oq.qs q.nK (n+1) s.1 (q.nK.length:Int) s.2=_
   rw[ngq]
   have hg:Zi (⟨q.oq.qk,q.oq.nO,q.oq.Count,q.oq.qs⟩:nJ) s.2=true:=nAQ s.2 (by omega)
   simp only[UQ,nQ,aQ,hg,ng,aj]
 refine key.trans ?_
 refine (nz_ q.Ring.nO (Y false) (fun s=>Y (bif (rZ q.oq s.2).2 then decide (s.1≤q.Ring.nO) else false)) q.nK (0,[])).trans ?_
 simp only[List.nil_append,Int.zero_add]
 exact J9 rfl rfl
def Rg (Y:Int→α) (x:Int) (oD:Rows) (ov:Int→Int→α) (n oy:Int):α:=
 bif decide (oy<x) then
  bif Ed (Ed true (idx oy oD)) (inl (Int.toNat oy) oD) then
   bif Ed true (Nr (rI (nth oD (Int.toNat oy)) 0) 8) then
    ov (nL (n+(Y8 (rI (nth oD (Int.toNat oy)) 0) 8))) (nL (oy+1))
   else kf
  else kf
 else Y (Int.tmod n 8)
def tV (Y:Int→α) (N:Nat) (x:Int) (oD:Rows) (m_:Nat):Int→Int→α:=
 Nat.rec (motive:=fun _=>Int→Int→α) (fun _ _=>kf) (fun _ ov=>Rg kf Y x oD ov) m_
theorem Vf (Y:Int→α) (N:Nat) (x:Int) (oD:Rows) (m_:Nat):tV kf Y N x oD (m_+1)=Rg kf Y x oD (tV kf Y N x oD m_):=rfl
def To (kf:α) (Y:Int→α) (l0:Int→Rows→Int→Int→α) (f:nG):α:=
 l0 5 ([[.int f.Kind],[.int f.o_],[.int f.qm],[.int f.om],[.int f.n9]]) 0 0
def ncd (Y:Int→α) (N:Nat) (f:nG):α:=To kf Y (fun x oD=>tV kf Y N x oD N) f
def hmL (f:nG):Rows:=[[.int f.Kind],[.int f.o_],[.int f.qm],[.int f.om],[.int f.n9]]
def hmN (f:nG):Int:=f.Kind % 8+f.o_ % 8+f.qm % 8+f.om % 8+f.n9 % 8
def qw (f:nG):Int:=hmN f % 8
theorem npt (f:nG):0≤hmN f:=by unfold hmN;omega
theorem UJ (f:nG):0≤qw f∧qw f<8:=by unfold qw;omega
theorem nps (f:nG):itN (fun i s=>s+(rI (nth (hmL f) i) 0) % 8) 5 0 0=hmN f:=by
 show 0+f.Kind % 8+f.o_ % 8+f.qm % 8+f.om % 8+f.n9 % 8=hmN f
 unfold hmN
 omega
theorem np_ (Y:Int→α) (f:nG) (h_f:kd nG.ct f.enc):∃N,ncd kf Y N f=Y (qw f):=by
 have hb:∀i,i<5→ -9223372036854775808≤rI (nth (hmL f) i) 0∧rI (nth (hmL f) i) 0≤9223372036854775807:=by
  intro i hi
  rcases i with _ | _ | _ | _ | _ | i
  ·exact wR (nG.nsC h_f)
  ·exact wR (nG.nm1 h_f)
  ·exact wR (nG.nvc h_f)
  ·exact wR (nG.nkL h_f)
  ·exact wR (nG.nkK h_f)
  ·omega
 refine⟨6, ?_⟩
 unfold ncd To
 have key:tV kf Y 6 5 (hmL f) 6 0 0=Y (Int.tmod (itN (fun i s=>s+(rI (nth (hmL f) i) 0) % 8) 5 0 0) 8):=by
  refine yt 5 (fun n i s=>tV kf Y 6 5 (hmL f) n s i) (fun i s=>s+(rI (nth (hmL f) i) 0) % 8) (fun s=>Y (Int.tmod s 8)) (fun i s=>0≤s∧s≤7*(i:Int)) ?_ ?_ ?_ 6 0 ⟨by omega,by omega⟩ (by omega)
  ·intro i s hi hs
   obtain⟨h1,h2⟩:=hs
   refine⟨by omega,by omega⟩
  ·intro n i s hi hs
   obtain⟨h1,h2⟩:=hs
   have b:=hb i hi
   show tV kf Y 6 5 (hmL f) (n+1) s (i:Int)=_
   rw[Vf]
   have hl:i<(hmL f).length:=hi
   have w1:nL ((i:Int)+1)=(i:Int)+1:=nF (by omega) (by omega)
   have w2:nL (s+(rI (nth (hmL f) i) 0) % 8)=s+(rI (nth (hmL f) i) 0) % 8:=nF (by omega) (by omega)
   obtain⟨m1,m2⟩:=WB (x:=rI (nth (hmL f) i) 0) (n:=8) b.1 b.2 (by omega) (by omega)
   have hd:decide ((i:Int)<5)=true:=Lu (by omega)
   simp only[Rg,hd,nR hl,sq hl,J6,m1,m2,w1,w2,ng,nr,aj]
  ·intro n s hs
   show tV kf Y 6 5 (hmL f) (n+1) s ((5:Nat):Int)=_
   rw[Vf]
   rfl
 refine key.trans ?_
 rw[nps]
 exact congrArg Y (Int.tmod_eq_emod_of_nonneg (npt f))
def R5 (Y:Int→α) (Z:Rows) (ov:Int→Int→α) (n k:Int):α:=
 bif decide (k<len Z) then
  bif Ed (Ed true (idx k Z)) (inl (Int.toNat k) Z) then
   ov (nL (n+(bits .and .i64 (rI (nth Z (Int.toNat k)) 0) 7))) (nL (k+1))
  else kf
 else Y (Int.tmod n 8)
def tZ (Y:Int→α) (N:Nat) (Z:Rows) (m_:Nat):Int→Int→α:=
 Nat.rec (motive:=fun _=>Int→Int→α) (fun _ _=>kf) (fun _ ov=>R5 kf Y Z ov) m_
theorem WJ (Y:Int→α) (N:Nat) (Z:Rows) (m_:Nat):tZ kf Y N Z (m_+1)=R5 kf Y Z (tZ kf Y N Z m_):=rfl
def TQ (kf:α) (Y:Int→α) (l0:Rows→Int→Int→α) (f:nG):α:=
 l0 ([[.int f.Kind],[.int f.o_],[.int f.qm],[.int f.om],[.int f.n9]]) 0 0
def ndS (Y:Int→α) (N:Nat) (f:nG):α:=TQ kf Y (fun Z=>tZ kf Y N Z N) f
theorem nr2 (Y:Int→α) (f:nG) (h_f:kd nG.ct f.enc):∃N,ndS kf Y N f=Y (qw f):=by
 have hb:∀i,i<5→ -9223372036854775808≤rI (nth (hmL f) i) 0∧rI (nth (hmL f) i) 0≤9223372036854775807:=by
  intro i hi
  rcases i with _ | _ | _ | _ | _ | i
  ·exact wR (nG.nsC h_f)
  ·exact wR (nG.nm1 h_f)
  ·exact wR (nG.nvc h_f)
  ·exact wR (nG.nkL h_f)
  ·exact wR (nG.nkK h_f)
  ·omega
 refine⟨6, ?_⟩
 unfold ndS TQ
 have key:tZ kf Y 6 (hmL f) 6 0 0=Y (Int.tmod (itN (fun i s=>s+(rI (nth (hmL f) i) 0) % 8) 5 0 0) 8):=by
  refine yt 5 (fun n i s=>tZ kf Y 6 (hmL f) n s i) (fun i s=>s+(rI (nth (hmL f) i) 0) % 8) (fun s=>Y (Int.tmod s 8)) (fun i s=>0≤s∧s≤7*(i:Int)) ?_ ?_ ?_ 6 0 ⟨by omega,by omega⟩ (by omega)
  ·intro i s hi hs
   obtain⟨h1,h2⟩:=hs
   refine⟨by omega,by omega⟩
  ·intro n i s hi hs
   obtain⟨h1,h2⟩:=hs
   have b:=hb i hi
   show tZ kf Y 6 (hmL f) (n+1) s (i:Int)=_
   rw[WJ]
   have hl:i<(hmL f).length:=hi
   have w1:nL ((i:Int)+1)=(i:Int)+1:=nF (by omega) (by omega)
   have w2:nL (s+(rI (nth (hmL f) i) 0) % 8)=s+(rI (nth (hmL f) i) 0) % 8:=nF (by omega) (by omega)
   have hd:decide ((i:Int)<len (hmL f))=true:=oU hl
   simp only[R5,hd,nR hl,sq hl,J6,nzt,w1,w2,ng,nr,aj]
  ·intro n s hs
   show tZ kf Y 6 (hmL f) (n+1) s ((5:Nat):Int)=_
   rw[WJ]
   rfl
 refine key.trans ?_
 rw[nps]
 exact congrArg Y (Int.tmod_eq_emod_of_nonneg (npt f))
def Qs (Y:Int→α) (x:Rows) (oy yC Tg wU U3 U4:Int) (ov:Int→α) (oD:Int):α:=
 bif decide (oD<oy) then
  bif Ed true (idx oD x) then
   bif bif (rI (nth x (Int.toNat oD)) 0)==1 then bif (rI (nth x (Int.toNat oD)) 1)==yC then bif (rI (nth x (Int.toNat oD)) 2)==Tg then bif (rI (nth x (Int.toNat oD)) 3)==wU then bif (rI (nth x (Int.toNat oD)) 4)==U3 then bif (rI (nth x (Int.toNat oD)) 5)==U4 then true else false else false else false else false else false else false then Y oD
   else ov (nL (oD+1))
  else kf
 else Y (-1)
def zw (Y:Int→α) (N:Nat) (x:Rows) (oy yC Tg wU U3 U4:Int) (m_:Nat):Int→α:=
 Nat.rec (motive:=fun _=>Int→α) (fun _=>kf) (fun _ ov=>Qs kf Y x oy yC Tg wU U3 U4 ov) m_
theorem ZO (Y:Int→α) (N:Nat) (x:Rows) (oy yC Tg wU U3 U4:Int) (m_:Nat):zw kf Y N x oy yC Tg wU U3 U4 (m_+1)=Qs kf Y x oy yC Tg wU U3 U4 (zw kf Y N x oy yC Tg wU U3 U4 m_):=rfl
def YR (kf:α) (Y:Int→α) (l0:Rows→Int→Int→Int→Int→Int→Int→Int→α) (t:ni) (f:nG):α:=
 l0 t.nC (len t.nC) f.Kind f.o_ f.qm f.om f.n9 0
def nin (Y:Int→α) (N:Nat) (t:ni) (f:nG):α:=YR kf Y (fun x oy yC Tg wU U3 U4=>zw kf Y N x oy yC Tg wU U3 U4 N) t f
def ur (r:List DC) (f:nG):Bool:=bif (rI r 0)==1 then bif (rI r 1)==f.Kind then bif (rI r 2)==f.o_ then bif (rI r 3)==f.qm then bif (rI r 4)==f.om then bif (rI r 5)==f.n9 then true else false else false else false else false else false else false
def R4 (t:ni) (f:nG):Int:=findIdx (fun _ r=>ur r f) t.nC 0
theorem nvD (Y:Int→α) (t:ni) (f:nG) (h_t:kd ni.ct t.enc):∃N,nin kf Y N t f=Y (R4 t f):=by
 obtain⟨hl,_⟩:=oG (ni.W7 h_t)
 refine⟨t.nC.length+1, ?_⟩
 unfold nin YR R4
 have key:zw kf Y (t.nC.length+1) t.nC (len t.nC) f.Kind f.o_ f.qm f.om f.n9 (t.nC.length+1) 0=Y (findIdx (fun _ r=>ur r f) t.nC 0):=by
  refine (rQ t.nC (zw kf Y (t.nC.length+1) t.nC (len t.nC) f.Kind f.o_ f.qm f.om f.n9) (fun i r c=>bif ur r f then Y (i:Int) else c) (Y (-1)) ?_ ?_).trans ?_
  ·intro n i h
   rw[ZO]
   simp only[Qs,oU h,nR h,ou h hl,J6,ng,nr,aj]
   rfl
  ·intro n
   rw[ZO]
   simp only[Qs,nQ,aQ]
  ·exact nbz (fun _ r=>ur r f) Y t.nC 0
 exact key
def TY (Y:Int→α) (uZ:Rows) (yC Tg wU U3 U4:Int) (ov:Int→α) (k:Int):α:=
 let z0:Int:=Int.tmod (nL ((qw (⟨yC,Tg,wU,U3,U4⟩:nG))+k)) 8
 let z1:Bool:=idx z0 uZ
 let z2:Bool:=Ed true z1
 let z3:List DC:=nth uZ (Int.toNat z0)
 let z4:Int:=rI z3 0
 let z5:Bool:=z4==1
 bif decide (k<8) then
  bif z2 then
   bif z4==0 then Y (-1)
   else bif L0 z5 (Ed z2 z1) z2 then
     bif bif z5 then bif (rI z3 1)==yC then bif (rI z3 2)==Tg then bif (rI z3 3)==wU then bif (rI z3 4)==U3 then bif (rI z3 5)==U4 then true else false else false else false else false else false else false then Y z0
     else ov (nL (k+1))
    else kf
  else kf
 else Y (-1)
def uF (Y:Int→α) (N:Nat) (uZ:Rows) (yC Tg wU U3 U4:Int) (m_:Nat):Int→α:=
 Nat.rec (motive:=fun _=>Int→α) (fun _=>kf) (fun _ ov=>TY kf Y uZ yC Tg wU U3 U4 ov) m_
theorem Yy (Y:Int→α) (N:Nat) (uZ:Rows) (yC Tg wU U3 U4:Int) (m_:Nat):uF kf Y N uZ yC Tg wU U3 U4 (m_+1)=TY kf Y uZ yC Tg wU U3 U4 (uF kf Y N uZ yC Tg wU U3 U4 m_):=rfl
def WZ (kf:α) (Y:Int→α) (l0:Rows→Int→Int→Int→Int→Int→Int→α) (t:ni) (f:nG):α:=
 l0 t.nC f.Kind f.o_ f.qm f.om f.n9 0
def ngz (Y:Int→α) (N:Nat) (t:ni) (f:nG):α:=WZ kf Y (fun uZ yC Tg wU U3 U4=>uF kf Y N uZ yC Tg wU U3 U4 N) t f
def nxV (t:ni) (_:nG):Bool:=decide (t.nC.length=8)
def ntv (t:Rows) (h:Int) (f:nG):Nat→Nat→Int
 | 0,_=> -1
 | m+1,k=>bif (rI (nth t (Int.toNat ((h+(k:Int)) % 8))) 0)==0 then -1 else bif ur (nth t (Int.toNat ((h+(k:Int)) % 8))) f then (h+(k:Int)) % 8 else ntv t h f m (k+1)
def UO (t:ni) (f:nG):Int:=ntv t.nC (qw f) f 8 0
theorem nzP (Y:Int→α) (t:Rows) (h:Int) (f:nG):∀(m i:Nat),npJ (σ:=Unit) (fun k c s=>bif (rI (nth t (Int.toNat ((h+(k:Int)) % 8))) 0)==0 then Y (-1) else bif ur (nth t (Int.toNat ((h+(k:Int)) % 8))) f then Y ((h+(k:Int)) % 8) else c s) (fun _=>Y (-1)) m i ()=Y (ntv t h f m i)
 | 0,_=>rfl
 | m+1,i=>by
  simp only[npJ,ntv]
  cases (rI (nth t (Int.toNat ((h+(i:Int)) % 8))) 0)==0
  ·cases ur (nth t (Int.toNat ((h+(i:Int)) % 8))) f
   ·exact nzP Y t h f m (i+1)
   ·rfl
  ·rfl
theorem nuQ (Y:Int→α) (t:ni) (f:nG) (aP:nxV t f=true):∃N,ngz kf Y N t f=Y (UO t f):=by
 have h8:t.nC.length=8:=of_decide_eq_true aP
 have hh:=UJ f
 refine⟨9, ?_⟩
 unfold ngz WZ UO
 have key:uF kf Y 9 t.nC f.Kind f.o_ f.qm f.om f.n9 9 0=Y (ntv t.nC (qw f) f 8 0):=by
  refine (nmt (σ:=Unit) 8 (fun n k _=>uF kf Y 9 t.nC f.Kind f.o_ f.qm f.om f.n9 n k) (fun k c s=>bif (rI (nth t.nC (Int.toNat ((qw f+(k:Int)) % 8))) 0)==0 then Y (-1) else bif ur (nth t.nC (Int.toNat ((qw f+(k:Int)) % 8))) f then Y ((qw f+(k:Int)) % 8) else c s) (fun _=>Y (-1)) ?_ ?_ 9 () (by omega)).trans (nzP Y t.nC (qw f) f 8 0)
  ·intro n i s hi
   show uF kf Y 9 t.nC f.Kind f.o_ f.qm f.om f.n9 (n+1) (i:Int)=_
   rw[Yy]
   have hd:decide ((i:Int)<8)=true:=Lu (by omega)
   have w1:nL ((i:Int)+1)=(i:Int)+1:=nF (by omega) (by omega)
   have hz:Int.tmod (nL (qw f+(i:Int))) 8=(qw f+(i:Int)) % 8:=by
    rw[nF (by omega) (by omega)]
    exact Int.tmod_eq_emod_of_nonneg (by omega)
   have hx:idx ((qw f+(i:Int)) % 8) t.nC=true:=by
    simp only[idx,aw,eX,h8]
    omega
   have hf:(⟨f.Kind,f.o_,f.qm,f.om,f.n9⟩:nG)=f:=rfl
   unfold TY
   simp only[hf,hd,hz,hx,w1,ng,nr,Pm,aj]
   rfl
  ·intro n s
   show uF kf Y 9 t.nC f.Kind f.o_ f.qm f.om f.n9 (n+1) ((8:Nat):Int)=_
   rw[Yy]
   rfl
 exact key
def YS (Y:Rows→α) (yC Tg wU U3 U4:Int) (ov:Int→Rows→α) (i:Int) (oc:Rows):α:=
 bif decide (i<8) then
  bif Ed true (qx 8 oc ([[.int (Int.tmod (nL ((qw (⟨yC,Tg,wU,U3,U4⟩:nG))+i)) 8)]])) then
   ov (nL (i+1)) (oc++([[.int (Int.tmod (nL ((qw (⟨yC,Tg,wU,U3,U4⟩:nG))+i)) 8)]]))
  else kf
 else Y oc
def wL (Y:Rows→α) (N:Nat) (yC Tg wU U3 U4:Int) (m_:Nat):Int→Rows→α:=
 Nat.rec (motive:=fun _=>Int→Rows→α) (fun _ _=>kf) (fun _ ov=>YS kf Y yC Tg wU U3 U4 ov) m_
theorem ncS (Y:Rows→α) (N:Nat) (yC Tg wU U3 U4:Int) (m_:Nat):wL kf Y N yC Tg wU U3 U4 (m_+1)=YS kf Y yC Tg wU U3 U4 (wL kf Y N yC Tg wU U3 U4 m_):=rfl
def nbD (kf:α) (Y:Rows→α) (l0:Int→Int→Int→Int→Int→Int→Rows→α) (f:nG):α:=
 l0 f.Kind f.o_ f.qm f.om f.n9 0 []
def nlo (Y:Rows→α) (N:Nat) (f:nG):α:=nbD kf Y (fun yC Tg wU U3 U4=>wL kf Y N yC Tg wU U3 U4 N) f
def nAt (h:Int) (i:Nat) (o:Rows):Rows:=o++[[.int ((h+(i:Int)) % 8)]]
def Tc (f:nG):Rows:=itN (nAt (qw f)) 8 0 []
theorem nxb (Y:Rows→α) (f:nG):∃N,nlo kf Y N f=Y (Tc f):=by
 have hh:=UJ f
 refine⟨9, ?_⟩
 unfold nlo nbD Tc
 have key:wL kf Y 9 f.Kind f.o_ f.qm f.om f.n9 9 0 []=Y (itN (nAt (qw f)) 8 0 []):=by
  refine yt 8 (fun n i o=>wL kf Y 9 f.Kind f.o_ f.qm f.om f.n9 n i o) (nAt (qw f)) Y (fun i o=>o.length=i) ?_ ?_ ?_ 9 [] rfl (by omega)
  ·intro i o hi ho
   simp only[nAt,fv,dx,List.length_nil,ho]
  ·intro n i o hi ho
   show wL kf Y 9 f.Kind f.o_ f.qm f.om f.n9 (n+1) (i:Int) o=_
   rw[ncS]
   have hd:decide ((i:Int)<8)=true:=Lu (by omega)
   have w1:nL ((i:Int)+1)=(i:Int)+1:=nF (by omega) (by omega)
   have hz:Int.tmod (nL (qw f+(i:Int))) 8=(qw f+(i:Int)) % 8:=by
    rw[nF (by omega) (by omega)]
    exact Int.tmod_eq_emod_of_nonneg (by omega)
   have hf:(⟨f.Kind,f.o_,f.qm,f.om,f.n9⟩:nG)=f:=rfl
   have hr:qx 8 o [[.int ((qw f+(i:Int)) % 8)]]=true:=Oc (by simp only[dx,List.length_nil];omega) (by omega)
   unfold YS
   simp only[hf,hd,hz,hr,w1,ng,nr,aj]
   rfl
  ·intro n o ho
   show wL kf Y 9 f.Kind f.o_ f.qm f.om f.n9 (n+1) ((8:Nat):Int) o=_
   rw[ncS]
   rfl
 exact key
def yl (Y:Bool→α) (l1:Int→Int→Int→Rows→Int→α) (x:Rows) (oy:Int) (uZ:Rows) (ov:Int→α) (oD:Int):α:=
 let z0:Rows:=Tc (nG.nc (nth x (Int.toNat oD)) 1)
 bif decide (oD<oy) then
  bif Ed true (idx oD x) then
   bif bif !(nf (rI (nth x (Int.toNat oD)) 0) 0 2) then true else !(nf (rI (nth x (Int.toNat oD)) 6) 0 3) then Y false
   else bif (rI (nth x (Int.toNat oD)) 0) != 1 then
    bif bif !(bif (rI (nth x (Int.toNat oD)) 1)==0 then bif (rI (nth x (Int.toNat oD)) 2)==0 then bif (rI (nth x (Int.toNat oD)) 3)==0 then bif (rI (nth x (Int.toNat oD)) 4)==0 then bif (rI (nth x (Int.toNat oD)) 5)==0 then true else false else false else false else false else false) then true else (rI (nth x (Int.toNat oD)) 6) != 0 then Y false
    else ov (nL (oD+1))
   else bif (R4 (⟨uZ⟩:ni) (nG.nc (nth x (Int.toNat oD)) 1)) != oD then Y false
   else l1 oD oD (len z0) z0 0
  else kf
 else Y true
def ym (Y:Bool→α) (ov:Int→α) (oD Xc x_6:Int) (uZ x_8:Rows) (ih1:Int→α) (x_7:Int):α:=
 bif decide (x_7<x_6) then
  bif Ed (Ed true (idx x_7 x_8)) (inl (Int.toNat x_7) x_8) then
   bif (rI (nth x_8 (Int.toNat x_7)) 0)==oD then ov (nL (Xc+1))
   else bif Ed true (idx (rI (nth x_8 (Int.toNat x_7)) 0) uZ) then
     bif (rI (nth uZ (Int.toNat (rI (nth x_8 (Int.toNat x_7)) 0))) 0)==0 then Y false
     else ih1 (nL (x_7+1))
    else kf
  else kf
 else ov (nL (Xc+1))
def uC (Y:Bool→α) (N:Nat) (ov:Int→α) (oD Xc x_6:Int) (uZ x_8:Rows) (m_:Nat):Int→α:=
 Nat.rec (motive:=fun _=>Int→α) (fun _=>kf) (fun _ ih1=>ym kf Y ov oD Xc x_6 uZ x_8 ih1) m_
theorem XC (Y:Bool→α) (N:Nat) (ov:Int→α) (oD Xc x_6:Int) (uZ x_8:Rows) (m_:Nat) (x_7:Int):uC kf Y N ov oD Xc x_6 uZ x_8 (m_+1) x_7=ym kf Y ov oD Xc x_6 uZ x_8 (uC kf Y N ov oD Xc x_6 uZ x_8 m_) x_7:=rfl
def tJ (Y:Bool→α) (N:Nat) (x:Rows) (oy:Int) (uZ:Rows) (m_:Nat):Int→α:=
 Nat.rec (motive:=fun _=>Int→α) (fun _=>kf) (fun _ ov=>yl kf Y (fun oD Xc x_6 x_8=>uC kf Y N ov oD Xc x_6 uZ x_8 N) x oy uZ ov) m_
theorem XB (Y:Bool→α) (N:Nat) (x:Rows) (oy:Int) (uZ:Rows) (m_:Nat) (oD:Int):tJ kf Y N x oy uZ (m_+1) oD=yl kf Y (fun oD Xc x_6 x_8=>uC kf Y N (tJ kf Y N x oy uZ m_) oD Xc x_6 uZ x_8 N) x oy uZ (tJ kf Y N x oy uZ m_) oD:=rfl
def Qj (kf:α) (Y:Bool→α) (l0:Rows→Int→Rows→Int→α) (t:ni):α:=
 bif (len t.nC) != 8 then Y false
 else l0 t.nC (len t.nC) t.nC 0
def Qi (Y:Bool→α) (N:Nat) (t:ni):α:=Qj kf Y (fun x oy uZ=>tJ kf Y N x oy uZ N) t
theorem Re {p:Nat→List DC→Bool} :∀ {l:Rows} {s:Nat},q_ p l s=false→∀i,i<l.length→p (s+i) (nth l i)=false
 | [],_,_,i,h=>by simp at h
 | r::rs,s,h,i,hi=>by
  simp only[q_] at h
  cases hp:p s r
  ·rw[hp,aQ] at h
   cases i with
   | zero=>exact hp
   | succ i=>
    have:=Re h i (by simpa using hi)
    rw[show s+(i+1)=s+1+i by omega]
    exact this
  ·rw[hp] at h
   cases h
theorem ni9 {p:Nat→List DC→Bool} :∀ {l:Rows} {s:Nat},(∀i,i<l.length→p (s+i) (nth l i)=false)→q_ p l s=false
 | [],_,_=>rfl
 | r::rs,s,h=>by
  simp only[q_]
  rw[show p s r=false from h 0 (by simp),aQ]
  exact ni9 (fun i hi=>by
   have:=h (i+1) (by simpa using hi)
   rw[show s+1+i=s+(i+1) by omega]
   exact this)
def nkI (t:Rows) (i:Int):Rows→Bool
 | []=>false
 | r::rs=>bif (rI r 0)==i then false else bif (rI (nth t (Int.toNat (rI r 0))) 0)==0 then true else nkI t i rs
theorem nzQ (t:Rows) (x:Int) (A B:α):∀(l:Rows) (j:Nat),yD (σ:=Unit) (fun _ r c s=>bif (rI r 0)==x then A else bif (rI (nth t (Int.toNat (rI r 0))) 0)==0 then B else c s) (fun _=>A) l j ()=bif nkI t x l then B else A
 | [],_=>rfl
 | r::rs,j=>by
  simp only[yD,nkI]
  cases (rI r 0)==x
  ·cases (rI (nth t (Int.toNat (rI r 0))) 0)==0
   ·exact nzQ t x A B rs (j+1)
   ·rfl
  ·rfl
def nwQ (r:List DC):Bool:=bif (rI r 1)==0 then bif (rI r 2)==0 then bif (rI r 3)==0 then bif (rI r 4)==0 then bif (rI r 5)==0 then true else false else false else false else false else false
def nel (r:List DC):Bool:=bif !(nf (rI r 0) 0 2) then true else !(nf (rI r 6) 0 3)
def nbF (t:Rows) (i:Nat) (r:List DC):Bool:=bif nel r then true else bif (rI r 0) != 1 then bif !(nwQ r) then true else (rI r 6) != 0 else bif (R4 (⟨t⟩:ni) (nG.nc r 1)) != (i:Int) then true else nkI t (i:Int) (Tc (nG.nc r 1))
def nup (t:Rows) (i:Nat) (r:List DC):Bool:=bif nel r then true else bif (rI r 0) != 1 then bif (rI r 6) != 0 then true else !(nwQ r) else (UO (⟨t⟩:ni) (nG.nc r 1)) != (i:Int)
def tS (t:ni):Bool:=bif (len t.nC) != 8 then false else bif q_ (nbF t.nC) t.nC 0 then false else true
def nyG (t:Rows) (h i:Int):Nat→Nat→Bool
 | 0,_=>false
 | m+1,k=>bif (h+(k:Int)) % 8==i then false else bif (rI (nth t (Int.toNat ((h+(k:Int)) % 8))) 0)==0 then true else nyG t h i m (k+1)
theorem npp (t:Rows) (i:Int) (f:nG):nkI t i (Tc f)=nyG t (qw f) i 8 0:=rfl
theorem Ps {r:List DC} {f:nG} :ur r f=true↔rI r 0=1∧nG.nc r 1=f:=by
 cases f with
 | mk a b c d e=>
  simp only[ur,nG.nc,nG.mk.injEq]
  by_cases h0:rI r 0=1
  ·by_cases h1:rI r 1=a
   ·by_cases h2:rI r 2=b
    ·by_cases h3:rI r 3=c
     ·by_cases h4:rI r 4=d
      ·by_cases h5:rI r 5=e
       ·simp [h0,h1,h2,h3,h4,h5]
       ·simp [h0,h1,h2,h3,h4,h5]
      ·simp [h0,h1,h2,h3,h4]
     ·simp [h0,h1,h2,h3]
    ·simp [h0,h1,h2]
   ·simp [h0,h1]
  ·simp [h0]
theorem nyb {r:List DC} (h:rI r 0=1):ur r (nG.nc r 1)=true:=Ps.2 ⟨h,rfl⟩
theorem nu_ {t:Rows} {h:Int} {f:nG} {i:Nat} (hi:i<8) (h1:rI (nth t i) 0=1) (hf:nG.nc (nth t i) 1=f)
  (hu:∀j,j<8→ur (nth t j) f=true→j=i):∀(m k:Nat),(∃d,d<m∧(h+(k:Int)+(d:Int)) % 8=(i:Int))→nyG t h (i:Int) m k=false→ntv t h f m k=(i:Int)
 | 0,k,⟨d,hd,_⟩,_=>by omega
 | m+1,k,⟨d,hd,he⟩,hw=>by
  unfold ntv
  unfold nyG at hw
  by_cases hk:(h+(k:Int)) % 8=(i:Int)
  ·rw[hk,J6]
   have e0:((rI (nth t i) 0)==0)=false:=by rw[h1];rfl
   rw[e0,Ps.2 ⟨h1,hf⟩]
   rfl
  ·have e1:((h+(k:Int)) % 8==(i:Int))=false:=by simpa using hk
   rw[e1,aQ] at hw
   cases e0:(rI (nth t (Int.toNat ((h+(k:Int)) % 8))) 0)==0
   ·rw[e0,aQ] at hw
    cases e2:ur (nth t (Int.toNat ((h+(k:Int)) % 8))) f
    ·simp only[aQ]
     refine nu_ hi h1 hf hu m (k+1) ⟨d - 1, ?_, ?_⟩ hw
     ·rcases d with _ | d
      ·exact absurd (by simpa using he) hk
      ·omega
     ·rcases d with _ | d
      ·exact absurd (by simpa using he) hk
      ·rw[←he]
       congr 1
       omega
    ·have:=hu _ (by omega) e2
     exact absurd (by omega) hk
   ·rw[e0] at hw
    cases hw
theorem nxJ {t:Rows} {h:Int} {f:nG} {i:Nat} :∀(m k:Nat),ntv t h f m k=(i:Int)→nyG t h (i:Int) m k=false
 | 0,_,_=>rfl
 | m+1,k,hl=>by
  unfold ntv at hl
  unfold nyG
  cases e1:((h+(k:Int)) % 8==(i:Int))
  ·cases e0:(rI (nth t (Int.toNat ((h+(k:Int)) % 8))) 0)==0
   ·rw[e0,aQ] at hl
    cases e2:ur (nth t (Int.toNat ((h+(k:Int)) % 8))) f
    ·rw[e2,aQ] at hl
     exact nxJ m (k+1) hl
    ·rw[e2,aj] at hl
     have:((h+(k:Int)) % 8==(i:Int))=true:=by simpa using hl
     rw[e1] at this
     cases this
   ·rw[e0,aj] at hl
    omega
  ·rfl
theorem nyZ {t:Rows} {i:Nat} (h:i<t.length) (h1:rI (nth t i) 0=1):(R4 (⟨t⟩:ni) (nG.nc (nth t i) 1) != (i:Int))=zh (fun j=>ur (nth t j) (nG.nc (nth t i) 1)) i 0:=by
 have:=nja (fun _ r=>ur r (nG.nc (nth t i) 1)) t 0 i h (nyb h1)
 rw[Nat.zero_add] at this
 exact this
theorem U1 {p:Nat→Bool} :∀ {m s:Nat},zh p m s=false↔∀j,s≤j→j<s+m→p j=false
 | 0,s=>by simp only[zh,true_iff];intro j h1 h2;omega
 | m+1,s=>by
  simp only[zh]
  cases hp:p s
  ·simp only[aQ]
   rw[U1]
   constructor
   ·intro h j h1 h2
    by_cases hj:j=s
    ·rw[hj];exact hp
    ·exact h j (by omega) (by omega)
   ·intro h j h1 h2
    exact h j (by omega) (by omega)
  ·simp only[aj]
   constructor
   ·intro h;cases h
   ·intro h
    have:=h s (by omega) (by omega)
    rw[hp] at this
    cases this
theorem nzj {t:Rows} (h8:t.length=8):q_ (nup t) t 0=q_ (nbF t) t 0:=by
 have zc:∀r:List DC,(bif !(nwQ r) then true else (rI r 6) != 0)=(bif (rI r 6) != 0 then true else !(nwQ r)):=by
  intro r
  cases nwQ r<;>cases ((rI r 6) != 0)<;>rfl
 have sI:∀i,nbF t i (nth t i)=false→rI (nth t i) 0=1→nel (nth t i)=false∧zh (fun j=>ur (nth t j) (nG.nc (nth t i) 1)) i 0=false∧nyG t (qw (nG.nc (nth t i) 1)) (i:Int) 8 0=false∨¬i<t.length:=by
  intro i h h1
  by_cases hi:i<t.length
  ·left
   unfold nbF at h
   have e1:((rI (nth t i) 0) != 1)=false:=by rw[h1];rfl
   rw[e1,nyZ hi h1,npp] at h
   cases hs:nel (nth t i)
   ·rw[hs] at h
    simp only[aQ] at h
    refine⟨rfl, ?_⟩
    cases ha:zh (fun j=>ur (nth t j) (nG.nc (nth t i) 1)) i 0
    ·rw[ha,aQ] at h
     exact⟨rfl,h⟩
    ·rw[ha] at h;cases h
   ·rw[hs] at h;cases h
  ·exact .inr hi
 have sS:∀i,i<t.length→nup t i (nth t i)=false→rI (nth t i) 0=1→nel (nth t i)=false∧UO (⟨t⟩:ni) (nG.nc (nth t i) 1)=(i:Int):=by
  intro i hi h h1
  unfold nup at h
  have e1:((rI (nth t i) 0) != 1)=false:=by rw[h1];rfl
  rw[e1] at h
  cases hs:nel (nth t i)
  ·rw[hs] at h
   simp only[aQ] at h
   exact⟨rfl,by simpa using h⟩
  ·rw[hs] at h;cases h
 cases hI:q_ (nbF t) t 0
 ·have hI:=Re hI
  simp only[Nat.zero_add] at hI
  refine ni9 (fun i hi=> ?_)
  rw[Nat.zero_add]
  by_cases h1:rI (nth t i) 0=1
  ·rcases sI i (hI i hi) h1 with ⟨a,b,c⟩ | h
   ·have hu:∀j,j<8→ur (nth t j) (nG.nc (nth t i) 1)=true→j=i:=by
     intro j hj hq
     obtain⟨j1,j2⟩:=Ps.1 hq
     rcases Nat.lt_trichotomy j i with cz | rfl | FY
     ·have:=U1.1 b j (by omega) (by omega)
      rw[hq] at this
      cases this
     ·rfl
     ·rcases sI j (hI j (by omega)) j1 with ⟨_,b',_⟩ | h
      ·have:=U1.1 b' i (by omega) (by omega)
       rw[Ps.2 ⟨h1,j2.symm⟩] at this
       cases this
      ·omega
    have hf:UO (⟨t⟩:ni) (nG.nc (nth t i) 1)=(i:Int):=by
     have hh:=UJ (nG.nc (nth t i) 1)
     refine nu_ (by omega) h1 rfl hu 8 0 ⟨(((i:Int) - qw (nG.nc (nth t i) 1)) % 8).toNat,by omega,by omega⟩ c
    unfold nup
    rw[a,hf,h1]
    simp
   ·exact absurd hi h
  ·have:=hI i hi
   unfold nbF at this
   unfold nup
   have e1:((rI (nth t i) 0) != 1)=true:=by simpa using h1
   rw[e1] at this ⊢
   rw[zc] at this
   exact this
 ·cases hS:q_ (nup t) t 0
  ·have hS:=Re hS
   simp only[Nat.zero_add] at hS
   have:q_ (nbF t) t 0=false:=by
    refine ni9 (fun i hi=> ?_)
    rw[Nat.zero_add]
    by_cases h1:rI (nth t i) 0=1
    ·obtain⟨a,b⟩:=sS i hi (hS i hi) h1
     have hu:zh (fun j=>ur (nth t j) (nG.nc (nth t i) 1)) i 0=false:=by
      refine U1.2 (fun j _ hj=> ?_)
      cases hq:ur (nth t j) (nG.nc (nth t i) 1)
      ·rfl
      ·obtain⟨j1,j2⟩:=Ps.1 hq
       have:=(sS j (by omega) (hS j (by omega)) j1).2
       rw[j2,b] at this
       omega
     unfold nbF
     have e1:((rI (nth t i) 0) != 1)=false:=by rw[h1];rfl
     rw[a,e1,nyZ hi h1,hu,npp,nxJ 8 0 b]
     rfl
    ·have:=hS i hi
     unfold nup at this
     unfold nbF
     have e1:((rI (nth t i) 0) != 1)=true:=by simpa using h1
     rw[e1] at this ⊢
     rw[zc]
     exact this
   rw[hI] at this
   cases this
  ·rfl
theorem nta (Y:Bool→α) (t:ni) (h_t:kd ni.ct t.enc):∃N,Qi kf Y N t=Y (tS t):=by
 obtain⟨hl,_⟩:=oG (ni.W7 h_t)
 refine⟨t.nC.length+9, ?_⟩
 unfold Qi Qj tS
 refine oA (fun _=>rfl) (fun hg=> ?_)
 have h8:t.nC.length=8:=by
  have:len t.nC=8:=by simpa using hg
  simp only[len] at this
  omega
 have key:tJ kf Y (t.nC.length+9) t.nC (len t.nC) t.nC (t.nC.length+9) 0=bif q_ (nbF t.nC) t.nC 0 then Y false else Y true:=by
  refine (x8 t.nC (tJ kf Y (t.nC.length+9) t.nC (len t.nC) t.nC) (fun i r c=>bif nbF t.nC i r then Y false else c) (Y true) ?_ ?_ (t.nC.length+9) (by omega)).trans (xe (nbF t.nC) (Y false) (Y true) t.nC 0)
  ·intro n i h
   rw[XB]
   have hc:∀z:Int,rI (nth t.nC i) 0=z→True:=fun _ _=>trivial
   have hw8:(Tc (nG.nc (nth t.nC i) 1)).length=8:=rfl
   have inner:∀ih:Int→α,uC kf Y (t.nC.length+9) ih (i:Int) (i:Int) (len (Tc (nG.nc (nth t.nC i) 1))) t.nC (Tc (nG.nc (nth t.nC i) 1)) (t.nC.length+9) 0=bif nkI t.nC (i:Int) (Tc (nG.nc (nth t.nC i) 1)) then Y false else ih ((i:Int)+1):=by
    intro ih
    refine (x8 (Tc (nG.nc (nth t.nC i) 1)) (uC kf Y (t.nC.length+9) ih (i:Int) (i:Int) (len (Tc (nG.nc (nth t.nC i) 1))) t.nC (Tc (nG.nc (nth t.nC i) 1))) (fun j r c=>bif (rI r 0)==(i:Int) then ih ((i:Int)+1) else bif (rI (nth t.nC (Int.toNat (rI r 0))) 0)==0 then Y false else c) (ih ((i:Int)+1)) ?_ ?_ (t.nC.length+9) (by omega)).trans (nzQ t.nC (i:Int) (ih ((i:Int)+1)) (Y false) (Tc (nG.nc (nth t.nC i) 1)) 0)
    ·intro n j hj
     rw[XC]
     have hx:idx (rI (nth (Tc (nG.nc (nth t.nC i) 1)) j) 0) t.nC=true:=by
      have:rI (nth (Tc (nG.nc (nth t.nC i) 1)) j) 0=(qw (nG.nc (nth t.nC i) 1)+(j:Int)) % 8:=by
       rw[hw8] at hj
       rcases j with _ | _ | _ | _ | _ | _ | _ | _ | j
       all_goals first | rfl | omega
      rw[this]
      simp only[idx,aw,eX,h8]
      omega
     have w1:nL ((i:Int)+1)=(i:Int)+1:=ou h hl
     have w2:nL ((j:Int)+1)=(j:Int)+1:=nF (by omega) (by omega)
     simp only[ym,oU hj,nR hj,sq hj,hx,w1,w2,J6,ng,nr,aj]
    ·intro n
     rw[XC]
     simp only[ym,nQ,aQ,ou h hl]
   unfold yl
   simp only[inner,oU h,nR h,ou h hl,J6,ng,nr,aj]
   unfold nbF
   show (bif nel (nth t.nC i) then Y false else _)=_
   cases nel (nth t.nC i)
   ·simp only[aQ]
    cases ((rI (nth t.nC i) 0) != 1)
    ·simp only[aQ]
     cases (R4 (⟨t.nC⟩:ni) (nG.nc (nth t.nC i) 1) != (i:Int))<;>rfl
    ·rfl
   ·rfl
  ·intro n
   rw[XB]
   simp only[yl,nQ,aQ]
 refine key.trans ?_
 exact J9 rfl rfl
def OW (Y:Bool→α) (uZ:Rows) (ov:Int→α) (k:Int):α:=
 bif decide (k<len uZ) then
  bif Ed true (idx k uZ) then
   bif bif !(nf (rI (nth uZ (Int.toNat k)) 0) 0 2) then true else !(nf (rI (nth uZ (Int.toNat k)) 6) 0 3) then Y false
   else bif (rI (nth uZ (Int.toNat k)) 0) != 1 then
    bif bif (rI (nth uZ (Int.toNat k)) 6) != 0 then true else !(bif (rI (nth uZ (Int.toNat k)) 1)==0 then bif (rI (nth uZ (Int.toNat k)) 2)==0 then bif (rI (nth uZ (Int.toNat k)) 3)==0 then bif (rI (nth uZ (Int.toNat k)) 4)==0 then bif (rI (nth uZ (Int.toNat k)) 5)==0 then true else false else false else false else false else false) then Y false
    else ov (nL (k+1))
   else bif Ed true (nxV (⟨uZ⟩:ni) (nG.nc (nth uZ (Int.toNat k)) 1)) then
     bif (UO (⟨uZ⟩:ni) (nG.nc (nth uZ (Int.toNat k)) 1)) != k then Y false
     else ov (nL (k+1))
    else kf
  else kf
 else Y true
def yv (Y:Bool→α) (N:Nat) (uZ:Rows) (m_:Nat):Int→α:=
 Nat.rec (motive:=fun _=>Int→α) (fun _=>kf) (fun _ ov=>OW kf Y uZ ov) m_
theorem Yw (Y:Bool→α) (N:Nat) (uZ:Rows) (m_:Nat):yv kf Y N uZ (m_+1)=OW kf Y uZ (yv kf Y N uZ m_):=rfl
def WS (kf:α) (Y:Bool→α) (l0:Rows→Int→α) (t:ni):α:=
 bif (len t.nC) != 8 then Y false
 else l0 t.nC 0
def ngo (Y:Bool→α) (N:Nat) (t:ni):α:=WS kf Y (fun uZ=>yv kf Y N uZ N) t
theorem nuI (Y:Bool→α) (t:ni) (h_t:kd ni.ct t.enc):∃N,ngo kf Y N t=Y (tS t):=by
 obtain⟨hl,_⟩:=oG (ni.W7 h_t)
 refine⟨t.nC.length+1, ?_⟩
 unfold ngo WS tS
 refine oA (fun _=>rfl) (fun hg=> ?_)
 have h8:t.nC.length=8:=by
  have:len t.nC=8:=by simpa using hg
  simp only[len] at this
  omega
 have key:yv kf Y (t.nC.length+1) t.nC (t.nC.length+1) 0=bif q_ (nup t.nC) t.nC 0 then Y false else Y true:=by
  refine (rQ t.nC (yv kf Y (t.nC.length+1) t.nC) (fun i r c=>bif nup t.nC i r then Y false else c) (Y true) ?_ ?_).trans (xe (nup t.nC) (Y false) (Y true) t.nC 0)
  ·intro n i h
   rw[Yw]
   have ho:nxV (⟨t.nC⟩:ni) (nG.nc (nth t.nC i) 1)=true:=Lu h8
   simp only[OW,ho,oU h,nR h,ou h hl,J6,ng,nr,aj]
   unfold nup
   show (bif nel (nth t.nC i) then Y false else _)=_
   cases nel (nth t.nC i)
   ·simp only[aQ]
    cases ((rI (nth t.nC i) 0) != 1)
    ·rfl
    ·rfl
   ·rfl
  ·intro n
   rw[Yw]
   simp only[OW,nQ,aQ]
 refine key.trans ?_
 rw[nzj h8]
 exact J9 rfl rfl
def zV (Y:Bool→α) (nn:Int) (x:Rows) (oy:Int) (ov:Int→α) (oD:Int):α:=
 bif decide (oD<oy) then
  bif Ed true (idx oD x) then
   bif !(nf (rI (nth x (Int.toNat oD)) 0) 0 (nL (nn - 1))) then Y false
   else ov (nL (oD+1))
  else kf
 else Y true
def xn (Y:Bool→α) (N:Nat) (nn:Int) (x:Rows) (oy:Int) (m_:Nat):Int→α:=
 Nat.rec (motive:=fun _=>Int→α) (fun _=>kf) (fun _ ov=>zV kf Y nn x oy ov) m_
theorem Vl (Y:Bool→α) (N:Nat) (nn:Int) (x:Rows) (oy:Int) (m_:Nat):xn kf Y N nn x oy (m_+1)=zV kf Y nn x oy (xn kf Y N nn x oy m_):=rfl
def Tu (kf:α) (Y:Bool→α) (l0:Rows→Int→Int→α) (s:nB) (nn:Int):α:=
 bif bif !(nf nn 1 4) then true else bif (len s.Key) != 16 then true else !(UW (len s.Table)) then Y false
 else l0 s.Table (len s.Table) 0
def ncv (Y:Bool→α) (N:Nat) (s:nB) (nn:Int):α:=Tu kf Y (fun x oy=>xn kf Y N nn x oy N) s nn
def uK (s:nB) (nn:Int):Bool:=bif bif !(nf nn 1 4) then true else bif (len s.Key) != 16 then true else !(UW (len s.Table)) then false
 else s.Table.all (fun r=>nf (rI r 0) 0 (nL (nn - 1)))
theorem nql (Y:Bool→α) (s:nB) (nn:Int) (vN:kd nB.ct s.enc):∃N,ncv kf Y N s nn=Y (uK s nn):=by
 obtain⟨hl,_⟩:=oG (nB.W8 vN)
 refine⟨s.Table.length+1, ?_⟩
 unfold ncv Tu uK
 refine oA (fun _=>rfl) (fun _=> ?_)
 have key:xn kf Y (s.Table.length+1) nn s.Table (len s.Table) (s.Table.length+1) 0=bif s.Table.all (fun r=>nf (rI r 0) 0 (nL (nn - 1))) then Y true else Y false:=by
  refine (rQ s.Table (xn kf Y (s.Table.length+1) nn s.Table (len s.Table)) (fun i r c=>bif !(nf (rI r 0) 0 (nL (nn - 1))) then Y false else c) (Y true) ?_ ?_).trans (Se (fun r=>nf (rI r 0) 0 (nL (nn - 1))) (Y false) (Y true) s.Table 0)
  ·intro n i h
   rw[Vl]
   simp only[zV,oU h,nR h,ou h hl,J6,ng,nr,aj]
  ·intro n
   rw[Vl]
   simp only[zV,nQ,aQ]
 refine key.trans ?_
 cases s.Table.all (fun r=>nf (rI r 0) 0 (nL (nn - 1)))<;>rfl
def NB (Y:Bool→α) (nn:Int) (sU:Rows) (ov:Int→α) (k:Int):α:=
 bif decide (k<len sU) then
  bif Ed true (idx k sU) then
   bif !(nf (rI (nth sU (Int.toNat k)) 0) 0 (nL (nn - 1))) then Y false
   else ov (nL (k+1))
  else kf
 else Y true
def xx (Y:Bool→α) (N:Nat) (nn:Int) (sU:Rows) (m_:Nat):Int→α:=
 Nat.rec (motive:=fun _=>Int→α) (fun _=>kf) (fun _ ov=>NB kf Y nn sU ov) m_
theorem WQ (Y:Bool→α) (N:Nat) (nn:Int) (sU:Rows) (m_:Nat):xx kf Y N nn sU (m_+1)=NB kf Y nn sU (xx kf Y N nn sU m_):=rfl
def TW (kf:α) (Y:Bool→α) (l0:Rows→Int→α) (s:nB) (nn:Int):α:=
 bif bif !(nf nn 1 4) then true else bif (len s.Key) != 16 then true else !(UW (len s.Table)) then Y false
 else l0 s.Table 0
def nd4 (Y:Bool→α) (N:Nat) (s:nB) (nn:Int):α:=TW kf Y (fun sU=>xx kf Y N nn sU N) s nn
theorem nsd (Y:Bool→α) (s:nB) (nn:Int) (vN:kd nB.ct s.enc):∃N,nd4 kf Y N s nn=Y (uK s nn):=by
 obtain⟨hl,_⟩:=oG (nB.W8 vN)
 refine⟨s.Table.length+1, ?_⟩
 unfold nd4 TW uK
 refine oA (fun _=>rfl) (fun _=> ?_)
 have key:xx kf Y (s.Table.length+1) nn s.Table (s.Table.length+1) 0=bif s.Table.all (fun r=>nf (rI r 0) 0 (nL (nn - 1))) then Y true else Y false:=by
  refine (rQ s.Table (xx kf Y (s.Table.length+1) nn s.Table) (fun i r c=>bif !(nf (rI r 0) 0 (nL (nn - 1))) then Y false else c) (Y true) ?_ ?_).trans (Se (fun r=>nf (rI r 0) 0 (nL (nn - 1))) (Y false) (Y true) s.Table 0)
  ·intro n i h
   rw[WQ]
   simp only[NB,oU h,nR h,ou h hl,J6,ng,nr,aj]
  ·intro n
   rw[WQ]
   simp only[NB,nQ,aQ]
 refine key.trans ?_
 cases s.Table.all (fun r=>nf (rI r 0) 0 (nL (nn - 1)))<;>rfl
def vo (Y:Bool→α) (l1:Int→Int→α) (nn:Int) (x:Rows) (oy:Int) (sU:Rows) (ov:Int→α) (oD:Int):α:=
 bif decide (oD<oy) then
  bif Ed true (idx oD x) then
   bif bif (rI (nth x (Int.toNat oD)) 7)==0 then decide (nn≤rI (nth x (Int.toNat oD)) 8) else false then Y false
   else ov (nL (oD+1))
  else kf
 else l1 (len sU) 0
def vp (Y:Bool→α) (nn:Int) (sU:Rows) (Td:Int) (ih1:Int→α) (Xc:Int):α:=
 bif decide (Xc<Td) then
  bif Ed true (idx Xc sU) then
   bif bif (rI (nth sU (Int.toNat Xc)) 0)==1 then decide (nn≤rI (nth sU (Int.toNat Xc)) 6) else false then Y false
   else ih1 (nL (Xc+1))
  else kf
 else Y true
def sY (Y:Bool→α) (N:Nat) (nn:Int) (sU:Rows) (Td:Int) (m_:Nat):Int→α:=
 Nat.rec (motive:=fun _=>Int→α) (fun _=>kf) (fun _ ih1=>vp kf Y nn sU Td ih1) m_
theorem SY (Y:Bool→α) (N:Nat) (nn:Int) (sU:Rows) (Td:Int) (m_:Nat):sY kf Y N nn sU Td (m_+1)=vp kf Y nn sU Td (sY kf Y N nn sU Td m_):=rfl
def sX (Y:Bool→α) (N:Nat) (nn:Int) (x:Rows) (oy:Int) (sU:Rows) (m_:Nat):Int→α:=
 Nat.rec (motive:=fun _=>Int→α) (fun _=>kf) (fun _ ov=>vo kf Y (fun Td=>sY kf Y N nn sU Td N) nn x oy sU ov) m_
theorem SX (Y:Bool→α) (N:Nat) (nn:Int) (x:Rows) (oy:Int) (sU:Rows) (m_:Nat) (oD:Int):sX kf Y N nn x oy sU (m_+1) oD=vo kf Y (fun Td=>sY kf Y N nn sU Td N) nn x oy sU (sX kf Y N nn x oy sU m_) oD:=rfl
def yK (kf:α) (Y:Bool→α) (l0:Rows→Int→Rows→Int→α) (s:nm) (nn:Int):α:=
 bif bif !(xC s.ot) then true else bif !(tS s.Table) then true else !(uK s.nX nn) then Y false
 else l0 s.ot (len s.ot) s.Table.nC 0
def yJ (Y:Bool→α) (N:Nat) (s:nm) (nn:Int):α:=yK kf Y (fun x oy sU=>sX kf Y N nn x oy sU N) s nn
def qZ (s:nm) (nn:Int):Bool:=bif bif !(xC s.ot) then true else bif !(tS s.Table) then true else !(uK s.nX nn) then false
 else bif s.ot.all (fun r=> !(decide (nn≤rI r 8))) then s.Table.nC.all (fun r=> !(decide (nn≤rI r 6))) else false
theorem ni7 {p q:List DC→Bool} :∀ {l:Rows},(∀r∈l,p r=q r)→l.all p=l.all q
 | [],_=>rfl
 | r::rs,h=>by
  simp only[List.all_cons]
  rw[h r (by simp),ni7 (fun x hx=>h x (by simp [hx]))]
theorem nxF {r:List DC} (h:uQ (oE.nc r 0)=true) (h7:rI r 7≠0):rI r 8=0:=by
 unfold uQ N0 at h
 simp only[id] at h
 have e7:((oE.nc r 0).Action==0)=false:=by
  show (rI r 7==0)=false
  simpa using h7
 rw[e7] at h
 simp only[aQ] at h
 by_cases h1:rI r 8=0
 ·exact h1
 ·have e8:((oE.nc r 0).Queue==0)=false:=by
   show (rI r 8==0)=false
   simpa using h1
  rw[e8] at h
  revert h
  cases (oE.nc r 0).Action==1<;>simp
theorem nwV {t:ni} (h:tS t=true) {r:List DC} (hr:r∈t.nC) (h0:rI r 0≠1):rI r 6=0:=by
 unfold tS at h
 cases h1:(len t.nC) != 8
 ·rw[h1,aQ] at h
  cases h2:q_ (nbF t.nC) t.nC 0
  ·obtain⟨i,hi,rfl⟩:=List.getElem_of_mem hr
   have:=Re h2 i hi
   rw[Nat.zero_add] at this
   have hn:nth t.nC i=t.nC[i]:=by simp [nth,List.getD_eq_getElem?_getD,hi]
   rw[hn] at this
   unfold nbF at this
   have e1:((rI t.nC[i] 0) != 1)=true:=by simpa using h0
   rw[e1] at this
   by_cases h6:rI t.nC[i] 6=0
   ·exact h6
   ·have e6:((rI t.nC[i] 6) != 0)=true:=by simpa using h6
    rw[e6] at this
    revert this
    cases nel t.nC[i]<;>cases nwQ t.nC[i]<;>simp
  ·rw[h2] at h;cases h
 ·rw[h1] at h;cases h
theorem Zg {s:nm} {nn:Int} (hg:(bif !(xC s.ot) then true else bif !(tS s.Table) then true else !(uK s.nX nn))=false):
  (∀r∈s.ot,uQ (oE.nc r 0)=true)∧tS s.Table=true∧1≤nn:=by
 cases h1:xC s.ot
 ·rw[h1] at hg;cases hg
 cases h2:tS s.Table
 ·rw[h1,h2] at hg;cases hg
 cases h3:uK s.nX nn
 ·rw[h1,h2,h3] at hg;cases hg
 refine⟨?_,rfl, ?_⟩
 ·unfold xC at h1
  cases h4:s.ot.all (fun r=>uQ (oE.nc r 0))
  ·rw[h4] at h1;cases h1
  ·exact fun r hr=>by simpa using List.all_eq_true.1 h4 r hr
 ·unfold uK at h3
  cases h4:nf nn 1 4
  ·rw[h4] at h3;cases h3
  ·exact (nZ.1 h4).1
theorem nk9 (Y:Bool→α) (s:nm) (nn:Int) (vN:kd nm.ct s.enc):∃N,yJ kf Y N s nn=Y (qZ s nn):=by
 obtain⟨hl,_⟩:=oG (nm.nve vN)
 obtain⟨ka,_⟩:=oG (ni.W7 (nm.W8 vN))
 refine⟨s.ot.length+s.Table.nC.length+1, ?_⟩
 unfold yJ yK qZ
 refine oA (fun _=>rfl) (fun hg=> ?_)
 have nyp:sY kf Y (s.ot.length+s.Table.nC.length+1) nn s.Table.nC (len s.Table.nC) (s.ot.length+s.Table.nC.length+1) 0=bif s.Table.nC.all (fun r=> !(bif (rI r 0)==1 then decide (nn≤rI r 6) else false)) then Y true else Y false:=by
  refine (x8 s.Table.nC (sY kf Y (s.ot.length+s.Table.nC.length+1) nn s.Table.nC (len s.Table.nC)) (fun i r c=>bif !(!(bif (rI r 0)==1 then decide (nn≤rI r 6) else false)) then Y false else c) (Y true) ?_ ?_ (s.ot.length+s.Table.nC.length+1) (by omega)).trans (Se (fun r=> !(bif (rI r 0)==1 then decide (nn≤rI r 6) else false)) (Y false) (Y true) s.Table.nC 0)
  ·intro n i h
   rw[SY]
   simp only[vp,oU h,nR h,ou h ka,J6,ng,nr,aj,Bool.not_not]
  ·intro n
   rw[SY]
   simp only[vp,nQ,aQ]
 have key:sX kf Y (s.ot.length+s.Table.nC.length+1) nn s.ot (len s.ot) s.Table.nC (s.ot.length+s.Table.nC.length+1) 0=bif s.ot.all (fun r=> !(bif (rI r 7)==0 then decide (nn≤rI r 8) else false)) then (bif s.Table.nC.all (fun r=> !(bif (rI r 0)==1 then decide (nn≤rI r 6) else false)) then Y true else Y false) else Y false:=by
  refine (x8 s.ot (sX kf Y (s.ot.length+s.Table.nC.length+1) nn s.ot (len s.ot) s.Table.nC) (fun i r c=>bif !(!(bif (rI r 7)==0 then decide (nn≤rI r 8) else false)) then Y false else c) (bif s.Table.nC.all (fun r=> !(bif (rI r 0)==1 then decide (nn≤rI r 6) else false)) then Y true else Y false) ?_ ?_ (s.ot.length+s.Table.nC.length+1) (by omega)).trans (Se (fun r=> !(bif (rI r 7)==0 then decide (nn≤rI r 8) else false)) (Y false) _ s.ot 0)
  ·intro n i h
   rw[SX]
   simp only[vo,oU h,nR h,ou h hl,J6,ng,nr,aj,Bool.not_not]
  ·intro n
   rw[SX]
   simp only[vo,nQ,aQ]
   exact nyp
 refine key.trans ?_
 obtain⟨g1,g2,g3⟩:=Zg hg
 rw[ni7 (l:=s.ot) (q:=fun r=> !(decide (nn≤rI r 8))) (fun r hr=>by
  by_cases h7:rI r 7=0
  ·have e:((rI r 7)==0)=true:=by simpa using h7
   rw[e,aj]
  ·have e:((rI r 7)==0)=false:=by simpa using h7
   rw[e,aQ,nxF (g1 r hr) h7,Lt (by omega)])]
 rw[ni7 (l:=s.Table.nC) (q:=fun r=> !(decide (nn≤rI r 6))) (fun r hr=>by
  by_cases h7:rI r 0=1
  ·have e:((rI r 0)==1)=true:=by simpa using h7
   rw[e,aj]
  ·have e:((rI r 0)==1)=false:=by simpa using h7
   rw[e,aQ,nwV g2 hr h7,Lt (by omega)])]
 cases s.ot.all (fun r=> !(decide (nn≤rI r 8)))
 ·rfl
 ·cases s.Table.nC.all (fun r=> !(decide (nn≤rI r 6)))<;>rfl
def vD (Y:Bool→α) (l1:Int→α) (nn:Int) (uc sU:Rows) (ov:Int→α) (k:Int):α:=
 bif decide (k<len uc) then
  bif Ed true (idx k uc) then
   bif decide (nn≤rI (nth uc (Int.toNat k)) 8) then Y false
   else ov (nL (k+1))
  else kf
 else l1 0
def vE (Y:Bool→α) (nn:Int) (sU:Rows) (ih1:Int→α) (rV:Int):α:=
 bif decide (rV<len sU) then
  bif Ed true (idx rV sU) then
   bif decide (nn≤rI (nth sU (Int.toNat rV)) 6) then Y false
   else ih1 (nL (rV+1))
  else kf
 else Y true
def s_ (Y:Bool→α) (N:Nat) (nn:Int) (sU:Rows) (m_:Nat):Int→α:=
 Nat.rec (motive:=fun _=>Int→α) (fun _=>kf) (fun _ ih1=>vE kf Y nn sU ih1) m_
theorem Ta (Y:Bool→α) (N:Nat) (nn:Int) (sU:Rows) (m_:Nat):s_ kf Y N nn sU (m_+1)=vE kf Y nn sU (s_ kf Y N nn sU m_):=rfl
def sZ (Y:Bool→α) (N:Nat) (nn:Int) (uc sU:Rows) (m_:Nat):Int→α:=
 Nat.rec (motive:=fun _=>Int→α) (fun _=>kf) (fun _ ov=>vD kf Y (s_ kf Y N nn sU N) nn uc sU ov) m_
theorem S_ (Y:Bool→α) (N:Nat) (nn:Int) (uc sU:Rows) (m_:Nat) (k:Int):sZ kf Y N nn uc sU (m_+1) k=vD kf Y (s_ kf Y N nn sU N) nn uc sU (sZ kf Y N nn uc sU m_) k:=rfl
def zd (kf:α) (Y:Bool→α) (l0:Rows→Rows→Int→α) (s:nm) (nn:Int):α:=
 bif bif !(xC s.ot) then true else bif !(tS s.Table) then true else !(uK s.nX nn) then Y false
 else l0 s.ot s.Table.nC 0
def zb (Y:Bool→α) (N:Nat) (s:nm) (nn:Int):α:=zd kf Y (fun uc sU=>sZ kf Y N nn uc sU N) s nn
theorem nmM (Y:Bool→α) (s:nm) (nn:Int) (vN:kd nm.ct s.enc):∃N,zb kf Y N s nn=Y (qZ s nn):=by
 obtain⟨hl,_⟩:=oG (nm.nve vN)
 obtain⟨ka,_⟩:=oG (ni.W7 (nm.W8 vN))
 refine⟨s.ot.length+s.Table.nC.length+1, ?_⟩
 unfold zb zd qZ
 refine oA (fun _=>rfl) (fun hg=> ?_)
 have nyp:s_ kf Y (s.ot.length+s.Table.nC.length+1) nn s.Table.nC (s.ot.length+s.Table.nC.length+1) 0=bif s.Table.nC.all (fun r=> !(decide (nn≤rI r 6))) then Y true else Y false:=by
  refine (x8 s.Table.nC (s_ kf Y (s.ot.length+s.Table.nC.length+1) nn s.Table.nC) (fun i r c=>bif !(!(decide (nn≤rI r 6))) then Y false else c) (Y true) ?_ ?_ (s.ot.length+s.Table.nC.length+1) (by omega)).trans (Se (fun r=> !(decide (nn≤rI r 6))) (Y false) (Y true) s.Table.nC 0)
  ·intro n i h
   rw[Ta]
   simp only[vE,oU h,nR h,ou h ka,J6,ng,nr,aj,Bool.not_not]
  ·intro n
   rw[Ta]
   simp only[vE,nQ,aQ]
 have key:sZ kf Y (s.ot.length+s.Table.nC.length+1) nn s.ot s.Table.nC (s.ot.length+s.Table.nC.length+1) 0=bif s.ot.all (fun r=> !(decide (nn≤rI r 8))) then (bif s.Table.nC.all (fun r=> !(decide (nn≤rI r 6))) then Y true else Y false) else Y false:=by
  refine (x8 s.ot (sZ kf Y (s.ot.length+s.Table.nC.length+1) nn s.ot s.Table.nC) (fun i r c=>bif !(!(decide (nn≤rI r 8))) then Y false else c) (bif s.Table.nC.all (fun r=> !(decide (nn≤rI r 6))) then Y true else Y false) ?_ ?_ (s.ot.length+s.Table.nC.length+1) (by omega)).trans (Se (fun r=> !(decide (nn≤rI r 8))) (Y false) _ s.ot 0)
  ·intro n i h
   rw[S_]
   simp only[vD,oU h,nR h,ou h hl,J6,ng,nr,aj,Bool.not_not]
  ·intro n
   rw[S_]
   simp only[vD,nQ,aQ]
   exact nyp
 refine key.trans ?_
 cases s.ot.all (fun r=> !(decide (nn≤rI r 8)))
 ·rfl
 ·cases s.Table.nC.all (fun r=> !(decide (nn≤rI r 6)))<;>rfl
def zr (Y:Bool→α) (l1:Int→Rows→Int→α) (n x:Int) (ry qz pe pM pN:Rows) (pR:Bytes) (pO:Rows) (rE rF rG rH rJ:Int) (ov:Int→α) (oy:Int):α:=
 let z0:Bool:= !(yi (nh.nc (nth ry (Int.toNat oy)) 0))
 let z1:Bool:= !(tR (nJ.nc (nth qz (Int.toNat oy)) 0))
 let z2:Bool:=Ed (Ed true (idx oy ry)) (idx oy qz)
 bif decide (oy<x) then
  bif L0 z0 (Ed true (idx oy ry)) (L0 z1 z2 (Ed z2 (idx oy pe))) then
   bif bif z0 then true else bif z1 then true else !(tU (nA.nc (nth pe (Int.toNat oy)) 0)) then Y false
   else ov (nL (oy+1))
  else kf
 else l1 5 ([[.int rE],[.int rF],[.int rG],[.int rH],[.int rJ]]) 0
def P_ (Y:Bool→α) (n oD:Int) (pM pN:Rows) (pR:Bytes) (pO Td:Rows) (ih1:Int→α) (x_3:Int):α:=
 bif decide (x_3<oD) then
  bif Ed (Ed true (idx x_3 Td)) (inl (Int.toNat x_3) Td) then
   bif !(nf (rI (nth Td (Int.toNat x_3)) 0) 0 1000000000000) then Y false
   else ih1 (nL (x_3+1))
  else kf
 else Y (qZ (⟨pM,(⟨pN⟩:ni),(⟨pR,pO⟩:nB)⟩:nm) n)
def vl (Y:Bool→α) (N:Nat) (n oD:Int) (pM pN:Rows) (pR:Bytes) (pO Td:Rows) (m_:Nat):Int→α:=
 Nat.rec (motive:=fun _=>Int→α) (fun _=>kf) (fun _ ih1=>P_ kf Y n oD pM pN pR pO Td ih1) m_
theorem Zw (Y:Bool→α) (N:Nat) (n oD:Int) (pM pN:Rows) (pR:Bytes) (pO Td:Rows) (m_:Nat):vl kf Y N n oD pM pN pR pO Td (m_+1)=P_ kf Y n oD pM pN pR pO Td (vl kf Y N n oD pM pN pR pO Td m_):=rfl
def tr (Y:Bool→α) (N:Nat) (n x:Int) (ry qz pe pM pN:Rows) (pR:Bytes) (pO:Rows) (rE rF rG rH rJ:Int) (m_:Nat):Int→α:=
 Nat.rec (motive:=fun _=>Int→α) (fun _=>kf) (fun _ ov=>zr kf Y (fun oD Td=>vl kf Y N n oD pM pN pR pO Td N) n x ry qz pe pM pN pR pO rE rF rG rH rJ ov) m_
theorem Zv (Y:Bool→α) (N:Nat) (n x:Int) (ry qz pe pM pN:Rows) (pR:Bytes) (pO:Rows) (rE rF rG rH rJ:Int) (m_:Nat) (oy:Int):tr kf Y N n x ry qz pe pM pN pR pO rE rF rG rH rJ (m_+1) oy=zr kf Y (fun oD Td=>vl kf Y N n oD pM pN pR pO Td N) n x ry qz pe pM pN pR pO rE rF rG rH rJ (tr kf Y N n x ry qz pe pM pN pR pO rE rF rG rH rJ m_) oy:=rfl
def Sl (Y:Bool→α) (l0:Int→Int→Rows→Rows→Rows→Rows→Rows→Bytes→Rows→Int→Int→Int→Int→Int→Int→α) (h:ny):α:=
 let z0:Bool:= !(nf (len h.Rx) 1 2)
 let z1:Bool:=(len h.og) != (len h.Rx)
 let z2:Bool:=(len h.nS) != (len h.Rx)
 bif L0 (!(qo h.ox)) true (L0 (!(pf h.Maps)) true (L0 (!(ng_ h.Tx)) (Ed true (T0 h.Tx)) (L0 (!(vh h.Filter)) (Ed true (T0 h.Tx)) (L0 z0 (Ed true (T0 h.Tx)) (L0 z1 (Ed true (T0 h.Tx)) (L0 z2 (Ed true (T0 h.Tx)) (Ed true (T0 h.Tx)))))))) then
  bif bif !(qo h.ox) then true else bif !(pf h.Maps) then true else bif !(ng_ h.Tx) then true else bif !(vh h.Filter) then true else bif z0 then true else bif z1 then true else bif z2 then true else (len h.oQ) != (len h.Rx) then Y false
  else l0 (len h.Rx) (len h.Rx) h.Rx h.og h.nS h.nv.ot h.nv.Table.nC h.nv.nX.Key h.nv.nX.Table h.Counters.Frames h.Counters.Bad h.Counters.qj h.Counters.qQ h.Counters.uf 0
 else kf
def Sk (Y:Bool→α) (N:Nat) (h:ny):α:=Sl kf Y (fun n x ry qz pe pM pN pR pO rE rF rG rH rJ=>tr kf Y N n x ry qz pe pM pN pR pO rE rF rG rH rJ N) h
def njb (h:ny):Bool:=T0 h.Tx
def xg (h:ny):Rows:=[[.int h.Counters.Frames],[.int h.Counters.Bad],[.int h.Counters.qj],[.int h.Counters.qQ],[.int h.Counters.uf]]
def nsS (h:ny):Bool:=(bif !(qo h.ox) then true else bif !(pf h.Maps) then true else bif !(ng_ h.Tx) then true else bif !(vh h.Filter) then true else bif !(nf (len h.Rx) 1 2) then true else bif (len h.og) != (len h.Rx) then true else bif (len h.nS) != (len h.Rx) then true else (len h.oQ) != (len h.Rx))
def Tf (h:ny):Bool:=bif nsS h then false else bif qZ h.nv (len h.Rx) then bif zh (fun i=>bif !(yi (nh.nc (nth h.Rx i) 0)) then true else bif !(tR (nJ.nc (nth h.og i) 0)) then true else !(tU (nA.nc (nth h.nS i) 0))) h.Rx.length 0 then false else (xg h).all (fun r=>nf (rI r 0) 0 1000000000000) else false
theorem nine:∀a b c d e f g i j:Bool,(bif a then true else bif b then true else bif c then true else bif d then true else bif e then true else bif f then true else bif g then true else bif i then true else j)=(bif (bif a then true else bif b then true else bif c then true else bif d then true else bif e then true else bif f then true else bif g then true else i) then true else j):=by decide
theorem nvm (Y:Bool→α) (h:ny) (aP:njb h=true):∃N,Sk kf Y N h=Y (Tf h):=by
 have hq:T0 h.Tx=true:=aP
 refine⟨h.Rx.length+6, ?_⟩
 unfold Sk Sl Tf
 simp only[hq,ng,nr,Pm,aj]
 refine oA (fun _=>rfl) (fun hg=> ?_)
 have hn:h.Rx.length≤2∧len h.og=len h.Rx∧len h.nS=len h.Rx:=by
  unfold nsS at hg
  cases h5:nf (len h.Rx) 1 2
  ·rw[h5] at hg
   revert hg
   cases qo h.ox<;>cases pf h.Maps<;>cases ng_ h.Tx<;>cases vh h.Filter<;>simp
  ·have b:=(nZ.1 h5).2
   by_cases e1:len h.og=len h.Rx
   ·by_cases e2:len h.nS=len h.Rx
    ·exact⟨by simp only[len] at b;omega,e1,e2⟩
    ·have e2:((len h.nS) != (len h.Rx))=true:=by simpa using e2
     rw[e2] at hg
     revert hg
     cases qo h.ox<;>cases pf h.Maps<;>cases ng_ h.Tx<;>cases vh h.Filter<;>cases nf (len h.Rx) 1 2<;>cases ((len h.og) != (len h.Rx))<;>simp
   ·have e1:((len h.og) != (len h.Rx))=true:=by simpa using e1
    rw[e1] at hg
    revert hg
    cases qo h.ox<;>cases pf h.Maps<;>cases ng_ h.Tx<;>cases vh h.Filter<;>cases nf (len h.Rx) 1 2<;>simp
 obtain⟨hn,hp,hv⟩:=hn
 have hc5:(xg h).length=5:=rfl
 have nyp:vl kf Y (h.Rx.length+6) (len h.Rx) 5 h.nv.ot h.nv.Table.nC h.nv.nX.Key h.nv.nX.Table (xg h) (h.Rx.length+6) 0=bif (xg h).all (fun r=>nf (rI r 0) 0 1000000000000) then (Y (qZ h.nv (len h.Rx))) else Y false:=by
  refine (x8 (xg h) (vl kf Y (h.Rx.length+6) (len h.Rx) 5 h.nv.ot h.nv.Table.nC h.nv.nX.Key h.nv.nX.Table (xg h)) (fun i r c=>bif !(nf (rI r 0) 0 1000000000000) then Y false else c) ((Y (qZ h.nv (len h.Rx)))) ?_ ?_ (h.Rx.length+6) (by omega)).trans (Se (fun r=>nf (rI r 0) 0 1000000000000) (Y false) ((Y (qZ h.nv (len h.Rx)))) (xg h) 0)
  ·intro n i hi
   rw[Zw]
   have w1:nL ((i:Int)+1)=(i:Int)+1:=nF (by omega) (by omega)
   have hd:decide ((i:Int)<5)=true:=Lu (by omega)
   simp only[P_,hd,nR hi,sq hi,w1,J6,ng,nr,aj]
  ·intro n
   rw[Zw]
   rfl
 have key:tr kf Y (h.Rx.length+6) (len h.Rx) (len h.Rx) h.Rx h.og h.nS h.nv.ot h.nv.Table.nC h.nv.nX.Key h.nv.nX.Table h.Counters.Frames h.Counters.Bad h.Counters.qj h.Counters.qQ h.Counters.uf (h.Rx.length+6) 0=bif zh (fun i=>bif !(yi (nh.nc (nth h.Rx i) 0)) then true else bif !(tR (nJ.nc (nth h.og i) 0)) then true else !(tU (nA.nc (nth h.nS i) 0))) h.Rx.length 0 then Y false else (bif (xg h).all (fun r=>nf (rI r 0) 0 1000000000000) then (Y (qZ h.nv (len h.Rx))) else Y false):=by
  refine (nmt (σ:=Unit) h.Rx.length (fun n i _=>tr kf Y (h.Rx.length+6) (len h.Rx) (len h.Rx) h.Rx h.og h.nS h.nv.ot h.nv.Table.nC h.nv.nX.Key h.nv.nX.Table h.Counters.Frames h.Counters.Bad h.Counters.qj h.Counters.qQ h.Counters.uf n i) (fun i c s=>bif bif !(yi (nh.nc (nth h.Rx i) 0)) then true else bif !(tR (nJ.nc (nth h.og i) 0)) then true else !(tU (nA.nc (nth h.nS i) 0)) then Y false else c s) (fun _=>bif (xg h).all (fun r=>nf (rI r 0) 0 1000000000000) then (Y (qZ h.nv (len h.Rx))) else Y false) ?_ ?_ (h.Rx.length+6) () (by omega)).trans (nsx (fun i=>bif !(yi (nh.nc (nth h.Rx i) 0)) then true else bif !(tR (nJ.nc (nth h.og i) 0)) then true else !(tU (nA.nc (nth h.nS i) 0))) (Y false) _ h.Rx.length 0)
  ·intro n i s hi
   show tr kf Y (h.Rx.length+6) (len h.Rx) (len h.Rx) h.Rx h.og h.nS h.nv.ot h.nv.Table.nC h.nv.nX.Key h.nv.nX.Table h.Counters.Frames h.Counters.Bad h.Counters.qj h.Counters.qQ h.Counters.uf (n+1) (i:Int)=_
   rw[Zv]
   have w1:nL ((i:Int)+1)=(i:Int)+1:=nF (by omega) (by omega)
   have p1:idx (i:Int) h.Rx=true:=nR hi
   have p2:idx (i:Int) h.og=true:=nR (by simp only[len] at hp;omega)
   have p3:idx (i:Int) h.nS=true:=nR (by simp only[len] at hv;omega)
   have p0:decide ((i:Int)<len h.Rx)=true:=oU hi
   simp only[zr,p0,p1,p2,p3,w1,J6,ng,nr,Pm,aj]
  ·intro n s
   show tr kf Y (h.Rx.length+6) (len h.Rx) (len h.Rx) h.Rx h.og h.nS h.nv.ot h.nv.Table.nC h.nv.nX.Key h.nv.nX.Table h.Counters.Frames h.Counters.Bad h.Counters.qj h.Counters.qQ h.Counters.uf (n+1) (h.Rx.length:Int)=_
   rw[Zv]
   have p0:decide ((h.Rx.length:Int)<len h.Rx)=false:=nQ h.Rx
   simp only[zr,p0,aQ]
   exact nyp
 refine key.trans ?_
 cases qZ h.nv (len h.Rx)
 ·cases zh (fun i=>bif !(yi (nh.nc (nth h.Rx i) 0)) then true else bif !(tR (nJ.nc (nth h.og i) 0)) then true else !(tU (nA.nc (nth h.nS i) 0))) h.Rx.length 0
  ·cases (xg h).all (fun r=>nf (rI r 0) 0 1000000000000)<;>rfl
  ·rfl
 ·cases zh (fun i=>bif !(yi (nh.nc (nth h.Rx i) 0)) then true else bif !(tR (nJ.nc (nth h.og i) 0)) then true else !(tU (nA.nc (nth h.nS i) 0))) h.Rx.length 0
  ·cases (xg h).all (fun r=>nf (rI r 0) 0 1000000000000)<;>rfl
  ·rfl
def zD (Y:Bool→α) (l1:Rows→Int→α) (n:Int) (ry qz pe:Rows) (rE rF rG rH rJ:Int) (ov:Int→α) (k:Int):α:=
 let z0:Bool:= !(yi (nh.nc (nth ry (Int.toNat k)) 0))
 let z1:Bool:= !(tR (nJ.nc (nth qz (Int.toNat k)) 0))
 let z2:Bool:=Ed (Ed true (idx k ry)) (idx k qz)
 bif decide (k<n) then
  bif L0 z0 (Ed true (idx k ry)) (L0 z1 z2 (Ed z2 (idx k pe))) then
   bif bif z0 then true else bif z1 then true else !(tU (nA.nc (nth pe (Int.toNat k)) 0)) then Y false
   else ov (nL (k+1))
  else kf
 else l1 ([[.int rE],[.int rF],[.int rG],[.int rH],[.int rJ]]) 0
def QI (Y:Bool→α) (Z:Rows) (ih1:Int→α) (rV:Int):α:=
 bif decide (rV<len Z) then
  bif Ed (Ed true (idx rV Z)) (inl (Int.toNat rV) Z) then
   bif !(nf (rI (nth Z (Int.toNat rV)) 0) 0 1000000000000) then Y false
   else ih1 (nL (rV+1))
  else kf
 else Y true
def vx (Y:Bool→α) (N:Nat) (Z:Rows) (m_:Nat):Int→α:=
 Nat.rec (motive:=fun _=>Int→α) (fun _=>kf) (fun _ ih1=>QI kf Y Z ih1) m_
theorem nbg (Y:Bool→α) (N:Nat) (Z:Rows) (m_:Nat):vx kf Y N Z (m_+1)=QI kf Y Z (vx kf Y N Z m_):=rfl
def tA (Y:Bool→α) (N:Nat) (n:Int) (ry qz pe:Rows) (rE rF rG rH rJ:Int) (m_:Nat):Int→α:=
 Nat.rec (motive:=fun _=>Int→α) (fun _=>kf) (fun _ ov=>zD kf Y (fun Z=>vx kf Y N Z N) n ry qz pe rE rF rG rH rJ ov) m_
theorem nbf (Y:Bool→α) (N:Nat) (n:Int) (ry qz pe:Rows) (rE rF rG rH rJ:Int) (m_:Nat) (k:Int):tA kf Y N n ry qz pe rE rF rG rH rJ (m_+1) k=zD kf Y (fun Z=>vx kf Y N Z N) n ry qz pe rE rF rG rH rJ (tA kf Y N n ry qz pe rE rF rG rH rJ m_) k:=rfl
def SG (Y:Bool→α) (l0:Int→Rows→Rows→Rows→Int→Int→Int→Int→Int→Int→α) (h:ny):α:=
 let z0:Bool:= !(nf (len h.Rx) 1 2)
 let z1:Bool:=(len h.og) != (len h.Rx)
 let z2:Bool:=(len h.nS) != (len h.Rx)
 let z3:Bool:=(len h.oQ) != (len h.Rx)
 bif L0 (!(qo h.ox)) true (L0 (!(pf h.Maps)) true (L0 (!(ng_ h.Tx)) (Ed true (T0 h.Tx)) (L0 (!(vh h.Filter)) (Ed true (T0 h.Tx)) (L0 z0 (Ed true (T0 h.Tx)) (L0 z1 (Ed true (T0 h.Tx)) (L0 z2 (Ed true (T0 h.Tx)) (L0 z3 (Ed true (T0 h.Tx)) (Ed true (T0 h.Tx))))))))) then
  bif bif !(qo h.ox) then true else bif !(pf h.Maps) then true else bif !(ng_ h.Tx) then true else bif !(vh h.Filter) then true else bif z0 then true else bif z1 then true else bif z2 then true else bif z3 then true else !(qZ h.nv (len h.Rx)) then Y false
  else l0 (len h.Rx) h.Rx h.og h.nS h.Counters.Frames h.Counters.Bad h.Counters.qj h.Counters.qQ h.Counters.uf 0
 else kf
def SF (Y:Bool→α) (N:Nat) (h:ny):α:=SG kf Y (fun n ry qz pe rE rF rG rH rJ=>tA kf Y N n ry qz pe rE rF rG rH rJ N) h
theorem nwl (Y:Bool→α) (h:ny) (aP:njb h=true):∃N,SF kf Y N h=Y (Tf h):=by
 have hq:T0 h.Tx=true:=aP
 refine⟨h.Rx.length+6, ?_⟩
 unfold SF SG Tf
 simp only[hq,ng,nr,Pm,aj]
 rw[nine]
 show (bif (bif nsS h then true else !(qZ h.nv (len h.Rx))) then Y false else _)=_
 rcases Bool.eq_false_or_eq_true (nsS h) with hg | hg
 ·rw[hg];rfl
 rcases Bool.eq_false_or_eq_true (qZ h.nv (len h.Rx)) with hs | hs
 case inr=>
  rw[hg,hs];rfl
 simp only[hg,hs,Bool.not_true,aQ,aj]
 have hn:h.Rx.length≤2∧len h.og=len h.Rx∧len h.nS=len h.Rx:=by
  unfold nsS at hg
  cases h5:nf (len h.Rx) 1 2
  ·rw[h5] at hg
   revert hg
   cases qo h.ox<;>cases pf h.Maps<;>cases ng_ h.Tx<;>cases vh h.Filter<;>simp
  ·have b:=(nZ.1 h5).2
   by_cases e1:len h.og=len h.Rx
   ·by_cases e2:len h.nS=len h.Rx
    ·exact⟨by simp only[len] at b;omega,e1,e2⟩
    ·have e2:((len h.nS) != (len h.Rx))=true:=by simpa using e2
     rw[e2] at hg
     revert hg
     cases qo h.ox<;>cases pf h.Maps<;>cases ng_ h.Tx<;>cases vh h.Filter<;>cases nf (len h.Rx) 1 2<;>cases ((len h.og) != (len h.Rx))<;>simp
   ·have e1:((len h.og) != (len h.Rx))=true:=by simpa using e1
    rw[e1] at hg
    revert hg
    cases qo h.ox<;>cases pf h.Maps<;>cases ng_ h.Tx<;>cases vh h.Filter<;>cases nf (len h.Rx) 1 2<;>simp
 obtain⟨hn,hp,hv⟩:=hn
 have hc5:(xg h).length=5:=rfl
 have nyp:vx kf Y (h.Rx.length+6) (xg h) (h.Rx.length+6) 0=bif (xg h).all (fun r=>nf (rI r 0) 0 1000000000000) then (Y true) else Y false:=by
  refine (x8 (xg h) (vx kf Y (h.Rx.length+6) (xg h)) (fun i r c=>bif !(nf (rI r 0) 0 1000000000000) then Y false else c) ((Y true)) ?_ ?_ (h.Rx.length+6) (by omega)).trans (Se (fun r=>nf (rI r 0) 0 1000000000000) (Y false) ((Y true)) (xg h) 0)
  ·intro n i hi
   rw[nbg]
   have w1:nL ((i:Int)+1)=(i:Int)+1:=nF (by omega) (by omega)
   simp only[QI,oU hi,nR hi,sq hi,w1,J6,ng,nr,aj]
  ·intro n
   rw[nbg]
   rfl
 have key:tA kf Y (h.Rx.length+6) (len h.Rx) h.Rx h.og h.nS h.Counters.Frames h.Counters.Bad h.Counters.qj h.Counters.qQ h.Counters.uf (h.Rx.length+6) 0=bif zh (fun i=>bif !(yi (nh.nc (nth h.Rx i) 0)) then true else bif !(tR (nJ.nc (nth h.og i) 0)) then true else !(tU (nA.nc (nth h.nS i) 0))) h.Rx.length 0 then Y false else (bif (xg h).all (fun r=>nf (rI r 0) 0 1000000000000) then (Y true) else Y false):=by
  refine (nmt (σ:=Unit) h.Rx.length (fun n i _=>tA kf Y (h.Rx.length+6) (len h.Rx) h.Rx h.og h.nS h.Counters.Frames h.Counters.Bad h.Counters.qj h.Counters.qQ h.Counters.uf n i) (fun i c s=>bif bif !(yi (nh.nc (nth h.Rx i) 0)) then true else bif !(tR (nJ.nc (nth h.og i) 0)) then true else !(tU (nA.nc (nth h.nS i) 0)) then Y false else c s) (fun _=>bif (xg h).all (fun r=>nf (rI r 0) 0 1000000000000) then (Y true) else Y false) ?_ ?_ (h.Rx.length+6) () (by omega)).trans (nsx (fun i=>bif !(yi (nh.nc (nth h.Rx i) 0)) then true else bif !(tR (nJ.nc (nth h.og i) 0)) then true else !(tU (nA.nc (nth h.nS i) 0))) (Y false) _ h.Rx.length 0)
  ·intro n i s hi
   show tA kf Y (h.Rx.length+6) (len h.Rx) h.Rx h.og h.nS h.Counters.Frames h.Counters.Bad h.Counters.qj h.Counters.qQ h.Counters.uf (n+1) (i:Int)=_
   rw[nbf]
   have w1:nL ((i:Int)+1)=(i:Int)+1:=nF (by omega) (by omega)
   have p1:idx (i:Int) h.Rx=true:=nR hi
   have p2:idx (i:Int) h.og=true:=nR (by simp only[len] at hp;omega)
   have p3:idx (i:Int) h.nS=true:=nR (by simp only[len] at hv;omega)
   have p0:decide ((i:Int)<len h.Rx)=true:=oU hi
   simp only[zD,p0,p1,p2,p3,w1,J6,ng,nr,Pm,aj]
  ·intro n s
   show tA kf Y (h.Rx.length+6) (len h.Rx) h.Rx h.og h.nS h.Counters.Frames h.Counters.Bad h.Counters.qj h.Counters.qQ h.Counters.uf (n+1) (h.Rx.length:Int)=_
   rw[nbf]
   have p0:decide ((h.Rx.length:Int)<len h.Rx)=false:=nQ h.Rx
   simp only[zD,p0,aQ]
   exact nyp
 refine key.trans ?_
 cases zh (fun i=>bif !(yi (nh.nc (nth h.Rx i) 0)) then true else bif !(tR (nJ.nc (nth h.og i) 0)) then true else !(tU (nA.nc (nth h.nS i) 0))) h.Rx.length 0
 ·cases (xg h).all (fun r=>nf (rI r 0) 0 1000000000000)<;>rfl
 ·rfl
theorem nwL:∀(a:Rows) (l:Int),(∀r∈a,kd oZ.ct r)→0≤l→l≤1048576→0≤nxs (fun r l=>sB (oZ.nc r 0) l) a l→(nsN a:Int)≤l
 | [],l,_,h,_,_=>by simpa [nsN] using h
 | r::rs,l,hw,h,h',h0=>by
  simp only[nxs] at h0
  have hr:G5 (.sl [.int .i64]) (.sl (rR r 2)):=by
   have:=hw r (by simp)
   rw[←oZ.eta this] at this
   exact oZ.nvb this
  obtain⟨e,hl⟩:=npj h h' (oG hr).1
  have hs:sB (oZ.nc r 0) l=bif decide (l - len (rR r 2)<0) then -1 else l - len (rR r 2):=by
   unfold sB Sw oX
   show (bif decide ((bif decide (nL (l - len (rR r 2))<0) then -1 else nL (l - len (rR r 2)))<0) then id (-1) else id (bif decide (nL (l - len (rR r 2))<0) then -1 else nL (l - len (rR r 2))))=_
   rw[e]
   by_cases hn:l - len (rR r 2)<0
   ·simp [hn]
   ·simp [hn]
  by_cases hn:l - len (rR r 2)<0
  ·simp [hs,hn] at h0
  ·have hs:sB (oZ.nc r 0) l=l - len (rR r 2):=by simp [hs,hn]
   have hn':¬sB (oZ.nc r 0) l<0:=by omega
   simp only[hn',decide_false,aQ] at h0
   rw[hs] at h0
   have ih:=nwL rs (l - len (rR r 2)) (fun x hx=>hw x (by simp [hx])) (by omega) (by omega) h0
   simp only[nsN]
   simp only[len] at ih hn
   omega
theorem nxt {a:Rows} {left:Int} (Ok:G5 (.sl [.int .i64,.int .i64,.sl [.int .i64]]) (.sl a)) (h1:0≤left) (h2:left≤1048576) (h0:0≤t9 a left):nsN a≤1048576:=by
 obtain⟨hl,hw⟩:=oG Ok
 obtain⟨e,h3⟩:=npj h1 h2 hl
 simp only[t9,YF,e] at h0
 by_cases hn:left - len a<0
 ·simp [hn] at h0
 ·simp only[hn,decide_false,aQ] at h0
  have:=nwL a (left - len a) hw (by omega) (by omega) h0
  omega
theorem nAs {a:nt} {left:Int} (Ok:kd nt.ct a.enc) (h1:0≤left) (h2:left≤1048576) (h0:0≤pF a left):T0 a=true:=by
 simp only[pF,Ni,id] at h0
 by_cases c0:rM a.oq left<0
 ·simp only[c0,decide_true,aj] at h0;omega
 simp only[c0,decide_false,aQ] at h0
 have k0:=Wo (nt.nxy Ok) h1 h2 (Int.not_lt.1 c0)
 by_cases c1:t9 a.nK (rM a.oq left)<0
 ·simp only[c1,decide_true,aj] at h0;omega
 have k1:=ndk (nt.Sb Ok) (Int.not_lt.1 c0) k0.1 (Int.not_lt.1 c1)
 have k2:=nxt (nt.Sb Ok) (Int.not_lt.1 c0) k0.1 (Int.not_lt.1 c1)
 have f1:a.oq.qs.length≤1048576:=by
  have hw:=(oG (nJ.nsB (nt.nxy Ok))).1
  obtain⟨e,hl⟩:=npj h1 h2 hw
  simp only[rM,Sv,id,oX,e] at c0
  by_cases hn:left - len a.oq.qs<0
  ·simp [hn] at c0
  ·simp only[len] at hn;omega
 have f2:sm a.nK=true:=by
  have:=k1.2
  simp only[tP,aw] at this
  exact this.1
 simp only[T0,f2,Bool.true_and,aw,eX]
 omega
theorem nzd {a:ny} {left:Int} (Ok:kd ny.ct a.enc) (h1:0≤left) (h2:left≤1048576) (h0:0≤wA a left):njb a=true:=by
 simp only[wA,Su,id] at h0
 by_cases c0:pc a.ox left<0
 ·simp only[c0,decide_true,aj] at h0;omega
 simp only[c0,decide_false,aQ] at h0
 have k0:=naJ (ny.nwP Ok) h1 h2 (Int.not_lt.1 c0)
 by_cases c1:oX a.Maps (pc a.ox left)<0
 ·simp only[c1,decide_true,aj] at h0;omega
 simp only[c1,decide_false,aQ] at h0
 have k1:=v_ (Int.not_lt.1 c0) k0.1 (oG (ny.ny4 Ok)).1 (Int.not_lt.1 c1)
 by_cases c2:pF a.Tx (oX a.Maps (pc a.ox left))<0
 ·simp only[c2,decide_true,aj] at h0;omega
 exact nAs (ny.nAE Ok) (Int.not_lt.1 c1) k1.1 (Int.not_lt.1 c2)
def OY (Y:Bytes→α) (n x:Int) (ov:Int→Rows→α) (i:Int) (oc:Rows):α:=
 bif decide (i<n) then
  bif Ed (Ed true (idx i oc)) (inl (Int.toNat i) oc) then
   ov (nL (i+1)) (List.set oc (Int.toNat i) (bX (nth oc (Int.toNat i)) 0 [.int x]))
  else kf
 else Y (toStr oc)
def OX (Y:Bytes→α) (N:Nat) (n x:Int) (m_:Nat):Int→Rows→α:=
 Nat.rec (motive:=fun _=>Int→Rows→α) (fun _ _=>kf) (fun _ ov=>OY kf Y n x ov) m_
theorem Yx (Y:Bytes→α) (N:Nat) (n x:Int) (m_:Nat):OX kf Y N n x (m_+1)=OY kf Y n x (OX kf Y N n x m_):=rfl
def WY (Y:Bytes→α) (l0:Int→Rows→α) (n x:Int):α:=
 bif Ed true (xq 1 n n) then
  l0 0 (List.replicate (Int.toNat n) ([.int 0]:List DC))
 else kf
def ngu (Y:Bytes→α) (N:Nat) (n x:Int):α:=WY kf Y (OX kf Y N n x N) n x
def Rl (n x:Int):Bool:=bif decide (0≤n) then decide (n≤1000) else false
def OD (n x:Int):Bytes:=List.replicate n.toNat (UInt8.ofNat x.toNat)
theorem ndt (n:Nat) {x:Int} (h0:0≤x) (h1:x≤255):(List.replicate n [DC.int x]:Rows)=ofStr (List.replicate n (UInt8.ofNat x.toNat)):=by
 simp only[ofStr,List.map_replicate,nzi h0 h1]
theorem nuL (Y:Bytes→α) (n x:Int) (h_x:G5 (.int .u8) (.int x)) (aP:Rl n x=true):∃N,ngu kf Y N n x=Y (OD n x):=by
 obtain⟨h0,h1⟩:=nZ.1 aP
 have hx:0≤x∧x≤255:=by
  have h:=h_x
  simp only[G5,DC.int.injEq] at h
  obtain⟨m,rfl,h⟩:=h
  simpa [BS,IntKind.min,IntKind.max,IntKind.signed,IntKind.bits] using h
 refine⟨n.toNat+1, ?_⟩
 unfold ngu WY OD
 have hmk:xq 1 n n=true:=by simp only[xq,aw,eX];omega
 simp only[hmk,ng,aj]
 have hr:(List.replicate n.toNat [DC.int 0]:Rows).length=n.toNat:=by simp
 have:=nxW (List.replicate n.toNat [DC.int 0]) (OX kf Y (n.toNat+1) n x) (fun o=>Y (toStr o)) (fun _=>[.int x]) ?_ ?_
 ·rw[hr] at this
  rw[this,List.map_replicate,ndt _ hx.1 hx.2,zG]
 ·intro q i o h ho hn
  rw[hr] at h
  rw[Yx]
  have Ci:i<o.length:=by rw[ho,hr];exact h
  have en:nth o i=[DC.int 0]:=by
   rw[hn]
   simp only[nth,List.getD_eq_getElem?_getD]
   rw[List.getElem?_replicate_of_lt h]
   rfl
  simp only[OY,Lu (show (i:Int)<n by omega),nR Ci,sq Ci,J6,ng,aj,en,nbK,nF (show -9223372036854775808≤(i:Int)+1 by omega) (show (i:Int)+1≤9223372036854775807 by omega)]
 ·intro q o ho
  rw[hr,Yx]
  simp only[OY,Lt (show ¬((n.toNat:Nat):Int)<n by omega),aQ]
def nmw (b n:Int):Bytes:=OD n b
def ng8 (b n:Int):Bool:=Rl n b
def Qp (Y:Bytes→α) (b x:Int) (ov:Int→Rows→α) (oy:Int) (oc:Rows):α:=
 bif decide (oy<x) then
  bif Ed (Ed true (idx oy oc)) (inl (Int.toNat oy) oc) then
   ov (nL (oy+1)) (List.set oc (Int.toNat oy) (bX (nth oc (Int.toNat oy)) 0 [.int b]))
  else kf
 else Y (toStr oc)
def Qo (Y:Bytes→α) (N:Nat) (b x:Int) (m_:Nat):Int→Rows→α:=
 Nat.rec (motive:=fun _=>Int→Rows→α) (fun _ _=>kf) (fun _ ov=>Qp kf Y b x ov) m_
theorem ZN (Y:Bytes→α) (N:Nat) (b x:Int) (m_:Nat):Qo kf Y N b x (m_+1)=Qp kf Y b x (Qo kf Y N b x m_):=rfl
def YP (Y:Bytes→α) (l0:Int→Int→Rows→α) (b n:Int):α:=
 bif Ed true (xq 1 n n) then
  l0 (len (List.replicate (Int.toNat n) ([.int 0]:List DC))) 0 (List.replicate (Int.toNat n) ([.int 0]:List DC))
 else kf
def nie (Y:Bytes→α) (N:Nat) (b n:Int):α:=YP kf Y (fun x=>Qo kf Y N b x N) b n
theorem nvz (Y:Bytes→α) (b n:Int) (h_b:G5 (.int .u8) (.int b)) (aP:ng8 b n=true):∃N,nie kf Y N b n=Y (nmw b n):=by
 obtain⟨h0,h1⟩:=nZ.1 (show (bif decide (0≤n) then decide (n≤1000) else false)=true from aP)
 have hx:0≤b∧b≤255:=by
  have h:=h_b
  simp only[G5,DC.int.injEq] at h
  obtain⟨m,rfl,h⟩:=h
  simpa [BS,IntKind.min,IntKind.max,IntKind.signed,IntKind.bits] using h
 refine⟨n.toNat+1, ?_⟩
 unfold nie YP nmw OD
 have hmk:xq 1 n n=true:=by simp only[xq,aw,eX];omega
 simp only[hmk,ng,aj]
 have hr:(List.replicate n.toNat [DC.int 0]:Rows).length=n.toNat:=by simp
 have hn:(len (List.replicate n.toNat [DC.int 0]):Int)=n:=by simp only[len,hr];omega
 rw[hn]
 have:=nxW (List.replicate n.toNat [DC.int 0]) (Qo kf Y (n.toNat+1) b n) (fun o=>Y (toStr o)) (fun _=>[.int b]) ?_ ?_
 ·rw[hr] at this
  rw[this,List.map_replicate,ndt _ hx.1 hx.2,zG]
 ·intro q i o h ho hn
  rw[hr] at h
  rw[ZN]
  have Ci:i<o.length:=by rw[ho,hr];exact h
  have en:nth o i=[DC.int 0]:=by
   rw[hn]
   simp only[nth,List.getD_eq_getElem?_getD]
   rw[List.getElem?_replicate_of_lt h]
   rfl
  simp only[Qp,Lu (show (i:Int)<n by omega),nR Ci,sq Ci,J6,ng,aj,en,nbK,nF (show -9223372036854775808≤(i:Int)+1 by omega) (show (i:Int)+1≤9223372036854775807 by omega)]
 ·intro q o ho
  rw[hr,ZN]
  simp only[Qp,Lt (show ¬((n.toNat:Nat):Int)<n by omega),aQ]
def nk1 (Y:Int→α) (s:Bytes) (at_:Int):α:=
 bif bif decide (at_<0) then true else decide (nL ((len s) - 4)<at_) then Y (-1)
 else bif Ed (Ed (Ed (Ed true (idx at_ s)) (idx (nL (at_+1)) s)) (idx (nL (at_+2)) s)) (idx (nL (at_+3)) s) then
   Y (bits .or .i64 (bits .or .i64 (bits .or .i64 (Zb .i64 (nL (wV s at_)) 24) (Zb .i64 (nL (wV s (nL (at_+1)))) 16)) (Zb .i64 (nL (wV s (nL (at_+2)))) 8)) (nL (wV s (nL (at_+3)))))
  else kf
def wS (s:Bytes) (at_:Int):Int:=bif bif decide (at_<0) then true else decide (len s<at_+4) then -1 else (wV s at_)*16777216+(wV s (at_+1))*65536+(wV s (at_+2))*256+wV s (at_+3)
theorem nw8 (Y:Int→α) (s:Bytes) (at_:Int) (vN:G5 .str (.str s)) (PM:G5 .i (.int at_)):nk1 kf Y s at_=Y (wS s at_):=by
 have hl:=vI vN
 have ha:=wR PM
 have hl0:0≤len s:=by simp [len]
 have GJ:len s≤9223372036854775807:=by simp only[len];omega
 have dZ:∀j:Int,at_≤j→j<at_+4→0≤at_→at_+4≤len s→idx j s=true:=by
  intro j h1 h2 h3 h4
  simp only[len] at h4
  simp only[idx,aw,eX]
  omega
 unfold nk1 wS
 by_cases hc:at_<0
 ·simp only[hc,decide_true,aj]
 ·by_cases hd:len s<at_+4
  ·have JI:nL (len s - 4)<at_:=by rw[nF (by omega) (by omega)];omega
   simp only[hc,hd,JI,decide_true,decide_false,aj,aQ]
  ·have JI:¬nL (len s - 4)<at_:=by rw[nF (by omega) (by omega)];omega
   have w1:nL (at_+1)=at_+1:=nF (by omega) (by omega)
   have w2:nL (at_+2)=at_+2:=nF (by omega) (by omega)
   have w3:nL (at_+3)=at_+3:=nF (by omega) (by omega)
   have b0:=sL s at_
   have c0:=tY s at_
   have b1:=sL s (at_+1)
   have c1:=tY s (at_+1)
   have b2:=sL s (at_+2)
   have c2:=tY s (at_+2)
   have b3:=sL s (at_+3)
   have c3:=tY s (at_+3)
   simp only[hc,hd,JI,decide_false,aQ,w1,w2,w3,dZ at_ (by omega) (by omega) (by omega) (by omega),dZ (at_+1) (by omega) (by omega) (by omega) (by omega),dZ (at_+2) (by omega) (by omega) (by omega) (by omega),dZ (at_+3) (by omega) (by omega) (by omega) (by omega),ng,aj]
   rw[nF (n:=wV s at_) (by omega) (by omega),nF (n:=wV s (at_+1)) (by omega) (by omega),nF (n:=wV s (at_+2)) (by omega) (by omega),nF (n:=wV s (at_+3)) (by omega) (by omega)]
   rw[nBb,nAD,nz5]
   rw[nF (n:=wV s at_*16777216) (by omega) (by omega),nF (n:=wV s (at_+1)*65536) (by omega) (by omega),nF (n:=wV s (at_+2)*256) (by omega) (by omega)]
   rw[Yl 24 (x:=wV s at_*16777216) (by omega) (by omega) (by omega) (by omega) (by omega) (by omega)]
   rw[Yl 16 (y:=wV s (at_+2)*256) (by omega) (by omega) (by omega) (by omega) (by omega) (by omega)]
   rw[Yl 8 (y:=wV s (at_+3)) (by omega) (by omega) (by omega) (by omega) (by omega) (by omega)]
def R8 (Y:Bool→α) (s:Bytes) (at_ n:Int):α:=
 Y (bif decide (0≤at_) then bif decide (at_≤len s) then decide (n≤nL ((len s) - at_)) else false else false)
def rz (s:Bytes) (at_ n:Int):Bool:=R8 id s at_ n
theorem npa (Y:Bool→α) (s:Bytes) (at_ n:Int):R8 Y s at_ n=Y (rz s at_ n):=by
 rfl
def nmD (Y:Int→α) (s:Bytes) (at_:Int):α:=
 bif !(rz s at_ 2) then Y (-1)
 else bif Ed (Ed true (idx at_ s)) (idx (nL (at_+1)) s) then
   Y (nL ((Zb .i64 (nL (wV s at_)) 8)+(nL (wV s (nL (at_+1))))))
  else kf
def pg (s:Bytes) (at_:Int):Int:=bif !(rz s at_ 2) then -1 else (wV s at_)*256+wV s (at_+1)
theorem within_iff {s:Bytes} {at_ n:Int} (hs:s.length≤9223372036854775807):rz s at_ n=true↔0≤at_∧at_≤len s∧at_+n≤len s:=by
 have hl0:0≤len s:=by simp [len]
 have GJ:len s≤9223372036854775807:=by simp only[len];omega
 unfold rz R8
 by_cases h1:0≤at_
 ·by_cases h2:at_≤len s
  ·rw[nF (by omega) (by omega)]
   simp only[h1,h2,decide_true,aj,id,true_and]
   constructor
   ·intro h
    have:=of_decide_eq_true h
    omega
   ·intro h
    exact Lu (by omega)
  ·simp [h1,h2]
 ·simp [h1]
theorem nxp (Y:Int→α) (s:Bytes) (at_:Int) (vN:G5 .str (.str s)):nmD kf Y s at_=Y (pg s at_):=by
 have hl:=vI vN
 have hl0:0≤len s:=by simp [len]
 have GJ:len s≤9223372036854775807:=by simp only[len];omega
 unfold nmD pg
 cases hw:rz s at_ 2
 ·rfl
 ·have hh:=(within_iff hl).1 hw
  have w1:nL (at_+1)=at_+1:=nF (by omega) (by omega)
  have dZ:∀j:Int,0≤j→j<len s→idx j s=true:=by
   intro j h1 h2
   simp only[len] at h2
   simp only[idx,aw,eX]
   omega
  have b0:=sL s at_
  have c0:=tY s at_
  have b1:=sL s (at_+1)
  have c1:=tY s (at_+1)
  simp only[w1,dZ at_ (by omega) (by omega),dZ (at_+1) (by omega) (by omega),ng,aj,aQ,Bool.not_true]
  rw[nF (n:=wV s at_) (by omega) (by omega),nF (n:=wV s (at_+1)) (by omega) (by omega),nz5,nF (n:=wV s at_*256) (by omega) (by omega),nF (by omega) (by omega)]
def nmE (Y:Int→α) (s:Bytes) (at_:Int):α:=
 bif !(rz s at_ 4) then Y (-1)
 else Y (nL ((Zb .i64 (pg s at_) 16)+(pg s (nL (at_+2)))))
theorem nxq (Y:Int→α) (s:Bytes) (at_:Int) (vN:G5 .str (.str s)) (PM:G5 .i (.int at_)):nmE Y s at_=Y (wS s at_):=by
 have hl:=vI vN
 have hl0:0≤len s:=by simp [len]
 have GJ:len s≤9223372036854775807:=by simp only[len];omega
 have ha:=wR PM
 unfold nmE wS
 cases hw:rz s at_ 4
 ·have hh:¬(0≤at_∧at_≤len s∧at_+4≤len s):=fun h=>by rw[(within_iff hl).2 h] at hw;cases hw
  have:(bif decide (at_<0) then true else decide (len s<at_+4))=true:=by
   by_cases h1:at_<0
   ·simp [h1]
   ·simp only[h1,decide_false,aQ,eX];omega
  rw[this]
  rfl
 ·have hh:=(within_iff hl).1 hw
  have:(bif decide (at_<0) then true else decide (len s<at_+4))=false:=by
   rw[show decide (at_<0)=false from Lt (by omega),show decide (len s<at_+4)=false from Lt (by omega)]
   rfl
  rw[this]
  have w2:nL (at_+2)=at_+2:=nF (by omega) (by omega)
  have h1:rz s at_ 2=true:=(within_iff hl).2 (by omega)
  have h2:rz s (at_+2) 2=true:=(within_iff hl).2 (by omega)
  have b0:=sL s at_
  have c0:=tY s at_
  have b1:=sL s (at_+1)
  have c1:=tY s (at_+1)
  have b2:=sL s (at_+2)
  have c2:=tY s (at_+2)
  have b3:=sL s (at_+3)
  have c3:=tY s (at_+3)
  have e:at_+2+1=at_+3:=by omega
  simp only[w2,pg,h1,h2,e,Bool.not_true,aQ]
  rw[nAD,nF (n:=(wV s at_*256+wV s (at_+1))*65536) (by omega) (by omega),nF (by omega) (by omega)]
  exact congrArg Y (by omega)
def Sp (Y:Bytes→α) (v:Int):α:=
 bif !(nf v 0 4294967295) then Y []
 else Y (toStr ([[.int (IntKind.wrap .u8 (wE .i64 v 24))],[.int (IntKind.wrap .u8 (wE .i64 v 16))],[.int (IntKind.wrap .u8 (wE .i64 v 8))],[.int (IntKind.wrap .u8 v)]]))
def ph (v:Int):Bytes:=Sp id v
theorem nhY (Y:Bytes→α) (v:Int):Sp Y v=Y (ph v):=by
 exact J9 rfl rfl
def NW (Y:Int→α) (l1:Int→Int→Int→α) (s:Bytes) (ov:Int→Int→α) (c i:Int):α:=
 bif decide (i<len s) then
  bif Ed true (idx i s) then
   l1 i (bits .xor .u32 c (IntKind.wrap .u32 (wV s i))) 0
  else kf
 else Y (nL (bits .xor .u32 (IntKind.max .u32) c))
def Sh (kf:α) (Y:Int→α) (ov:Int→Int→α) (i:Int) (ih1:Int→Int→α) (UK k:Int):α:=
 bif decide (k<8) then ih1 (bif (bits .and .u32 UK 1)==1 then bits .xor .u32 (wE .u32 UK 1) 3988292384 else wE .u32 UK 1) (nL (k+1))
 else ov UK (nL (i+1))
def t5 (Y:Int→α) (N:Nat) (ov:Int→Int→α) (i:Int) (m_:Nat):Int→Int→α:=
 Nat.rec (motive:=fun _=>Int→Int→α) (fun _ _=>kf) (fun _ ih1=>Sh kf Y ov i ih1) m_
theorem nbX (Y:Int→α) (N:Nat) (ov:Int→Int→α) (i:Int) (m_:Nat) (UK k:Int):t5 kf Y N ov i (m_+1) UK k=Sh kf Y ov i (t5 kf Y N ov i m_) UK k:=rfl
def uT (Y:Int→α) (N:Nat) (s:Bytes) (m_:Nat):Int→Int→α:=
 Nat.rec (motive:=fun _=>Int→Int→α) (fun _ _=>kf) (fun _ ov=>NW kf Y (fun i=>t5 kf Y N ov i N) s ov) m_
theorem nbW (Y:Int→α) (N:Nat) (s:Bytes) (m_:Nat) (c i:Int):uT kf Y N s (m_+1) c i=NW kf Y (fun i=>t5 kf Y N (uT kf Y N s m_) i N) s (uT kf Y N s m_) c i:=rfl
def nkW (kf:α) (Y:Int→α) (l0:Int→Int→α) (s:Bytes):α:=
 l0 4294967295 0
def nbB (Y:Int→α) (N:Nat) (s:Bytes):α:=nkW kf Y (uT kf Y N s N) s
def nes (c:Int):Int:=bif (bits .and .u32 c 1)==1 then bits .xor .u32 (wE .u32 c 1) 3988292384 else wE .u32 c 1
def nsw (s:Bytes) (i:Nat) (c:Int):Int:=itN (fun _ c=>nes c) 8 0 (bits .xor .u32 c (wV s i))
def nen (s:Bytes):Int:=4294967295 - itN (nsw s) s.length 0 4294967295
def U32 (c:Int):Prop:=0≤c∧c<4294967296
theorem ni_ {c:Int} (h:U32 c):U32 (nes c):=by
 obtain⟨h1,h2⟩:=h
 unfold nes
 rw[nx3]
 cases (bits .and .u32 c 1)==1
 ·exact⟨by simp only[aQ];omega,by simp only[aQ];omega⟩
 ·exact (nbw (a:=c / 2) (by omega) (by omega) (by decide) (by decide)).2
theorem npx {s:Bytes} {i:Nat} {c:Int} (h:U32 c):U32 (nsw s i c):=by
 refine nyQ (I:=U32) (B:=8) (fun _ c _ h=>ni_ h) 8 0 _ (by omega) ?_
 have b0:=sL s i
 have c0:=tY s i
 exact (nbw h.1 h.2 b0 (by omega)).2
theorem nw5 (Y:Int→α) (s:Bytes) (vN:G5 .str (.str s)):∃N,nbB kf Y N s=Y (nen s):=by
 have hl:=vI vN
 refine⟨s.length+9, ?_⟩
 unfold nbB nkW
 have inner:∀(ih:Int→Int→α) (i c:Int),U32 c→t5 kf Y (s.length+9) ih i (s.length+9) c 0=ih (itN (fun _ c=>nes c) 8 0 c) (nL (i+1)):=by
  intro ih i c hc
  refine nsz 8 (fun n k c=>t5 kf Y (s.length+9) ih i n c k) (fun _ c=>nes c) (fun c=>ih c (nL (i+1))) U32 (fun _ _ _ h=>ni_ h) ?_ ?_ (s.length+9) c hc (by omega)
  ·intro n k c hk hc
   show t5 kf Y (s.length+9) ih i (n+1) c k=_
   rw[nbX]
   have h8:((k:Nat):Int)<8:=by omega
   have hw:nL ((k:Int)+1)=(k:Int)+1:=nF (by omega) (by omega)
   simp only[Sh,h8,decide_true,aj,hw]
   rfl
  ·intro n c hc
   show t5 kf Y (s.length+9) ih i (n+1) c 8=_
   rw[nbX]
   rfl
 refine (nsz s.length (fun n i c=>uT kf Y (s.length+9) s n c i) (nsw s) (fun c=>Y (4294967295 - c)) U32 (fun _ _ _ h=>npx h) ?_ ?_ (s.length+9) 4294967295 ⟨by decide,by decide⟩ (by omega)).trans rfl
 ·intro n i c h hc
  show uT kf Y (s.length+9) s (n+1) c i=_
  rw[nbW]
  have b0:=sL s i
  have c0:=tY s i
  simp only[NW,oU h,nR h,ng,aj]
  rw[show IntKind.wrap .u32 (wV s i)=wV s i by rw[IntKind.wrap_u32];omega]
  rw[inner _ _ _ (nbw hc.1 hc.2 b0 (by omega)).2,ou h hl]
  rfl
 ·intro n c hc
  show uT kf Y (s.length+9) s (n+1) c s.length=_
  rw[nbW]
  simp only[NW,nQ,aQ]
  rw[nAo hc.1 hc.2,nF (by have:=hc.1;have:=hc.2;omega) (by have:=hc.1;omega)]
def Od (Y:Int→α) (l1:Int→Int→Int→α) (s:Bytes) (ov:Int→Int→α) (c i:Int):α:=
 bif decide (i<len s) then
  bif Ed true (idx i s) then
   l1 i (bits .xor .i64 c (nL (wV s i))) 0
  else kf
 else Y (nL (4294967295 - c))
def SD (kf:α) (Y:Int→α) (ov:Int→Int→α) (i:Int) (ih1:Int→Int→α) (UK k:Int):α:=
 bif decide (k<8) then ih1 (bif (bits .and .i64 UK 1)==1 then bits .xor .i64 (wE .i64 UK 1) 3988292384 else wE .i64 UK 1) (nL (k+1))
 else ov UK (nL (i+1))
def ua (Y:Int→α) (N:Nat) (ov:Int→Int→α) (i:Int) (m_:Nat):Int→Int→α:=
 Nat.rec (motive:=fun _=>Int→Int→α) (fun _ _=>kf) (fun _ ih1=>SD kf Y ov i ih1) m_
theorem ndz (Y:Int→α) (N:Nat) (ov:Int→Int→α) (i:Int) (m_:Nat) (UK k:Int):ua kf Y N ov i (m_+1) UK k=SD kf Y ov i (ua kf Y N ov i m_) UK k:=rfl
def uX (Y:Int→α) (N:Nat) (s:Bytes) (m_:Nat):Int→Int→α:=
 Nat.rec (motive:=fun _=>Int→Int→α) (fun _ _=>kf) (fun _ ov=>Od kf Y (fun i=>ua kf Y N ov i N) s ov) m_
theorem ndy (Y:Int→α) (N:Nat) (s:Bytes) (m_:Nat) (c i:Int):uX kf Y N s (m_+1) c i=Od kf Y (fun i=>ua kf Y N (uX kf Y N s m_) i N) s (uX kf Y N s m_) c i:=rfl
def nmz (kf:α) (Y:Int→α) (l0:Int→Int→α) (s:Bytes):α:=
 l0 4294967295 0
def nbJ (Y:Int→α) (N:Nat) (s:Bytes):α:=nmz kf Y (uX kf Y N s N) s
theorem nxn (Y:Int→α) (s:Bytes) (vN:G5 .str (.str s)):∃N,nbJ kf Y N s=Y (nen s):=by
 have hl:=vI vN
 refine⟨s.length+9, ?_⟩
 unfold nbJ nmz
 have inner:∀(ih:Int→Int→α) (i c:Int),U32 c→ua kf Y (s.length+9) ih i (s.length+9) c 0=ih (itN (fun _ c=>nes c) 8 0 c) (nL (i+1)):=by
  intro ih i c hc
  refine nsz 8 (fun n k c=>ua kf Y (s.length+9) ih i n c k) (fun _ c=>nes c) (fun c=>ih c (nL (i+1))) U32 (fun _ _ _ h=>ni_ h) ?_ ?_ (s.length+9) c hc (by omega)
  ·intro n k c hk hc
   show ua kf Y (s.length+9) ih i (n+1) c k=_
   rw[ndz]
   have h8:((k:Nat):Int)<8:=by omega
   have hw:nL ((k:Int)+1)=(k:Int)+1:=nF (by omega) (by omega)
   simp only[SD,h8,decide_true,aj,hw]
   unfold nes
   rw[ny7 hc.1 hc.2,nz6,nx3,(nbw (a:=c / 2) (b:=3988292384) (by have:=hc.1;omega) (by have:=hc.2;omega) (by decide) (by decide)).1]
  ·intro n c hc
   show ua kf Y (s.length+9) ih i (n+1) c 8=_
   rw[ndz]
   rfl
 refine (nsz s.length (fun n i c=>uX kf Y (s.length+9) s n c i) (nsw s) (fun c=>Y (4294967295 - c)) U32 (fun _ _ _ h=>npx h) ?_ ?_ (s.length+9) 4294967295 ⟨by decide,by decide⟩ (by omega)).trans rfl
 ·intro n i c h hc
  show uX kf Y (s.length+9) s (n+1) c i=_
  rw[ndy]
  have b0:=sL s i
  have c0:=tY s i
  simp only[Od,oU h,nR h,ng,aj]
  rw[nF (n:=wV s i) (by omega) (by omega),(nbw hc.1 hc.2 b0 (by omega)).1]
  rw[inner _ _ _ (nbw hc.1 hc.2 b0 (by omega)).2,ou h hl]
  rfl
 ·intro n c hc
  show uX kf Y (s.length+9) s (n+1) c s.length=_
  rw[ndy]
  simp only[Od,nQ,aQ]
  rw[nF (by have:=hc.1;have:=hc.2;omega) (by have:=hc.1;omega)]
end
end Go.Proofs.YtnlkklmcfafgeaaGreat.Pl
