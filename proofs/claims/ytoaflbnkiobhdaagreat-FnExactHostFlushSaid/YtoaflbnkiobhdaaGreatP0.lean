/- Plain forms. Conditions: as each says. -/
import Derived.Test.YtoaflbnkiobhdaaGreatPre
import Derived.Test.YtoaflbnkiobhdaaGreatLem
import Derived.Test.YtoaflbnkiobhdaaGreatDp
import Derived.Test.YtoaflbnkiobhdaaGreatBit
set_option linter.unusedVariables false
set_option linter.unusedSimpArgs false
set_option maxRecDepth 100000
namespace Go.Proofs.YtoaflbnkiobhdaaGreat.Pl
open Vm
noncomputable section
variable {α:Type} (kd:α)
structure ni where
 nC:Rows
def ni.enc (x:ni):List DC:=[.sl x.nC]
def ni.nd (r:List DC) (o:Nat):ni:=⟨rR r (o+0)⟩
def ni.ct:List CT:=[.sl [.i,.i,.i,.i,.i,.i,.i]]
theorem ni.eta {r:List DC} (h:ka ni.ct r):(ni.nd r 0).enc=r:=(show (ni.nd r 0).enc=tq ni.ct r 0 from by kernel_rfl).trans (rC h)
theorem ni.nz {r:List CT} {ds:List DC} (h:ka (ni.ct++r) ds):∃(x:ni) (aX:List DC),ds=x.enc++aX∧ka ni.ct x.enc∧ka r aX:=by
 obtain⟨d1,d2,rfl,h1,h2⟩:=qW h
 exact⟨ni.nd d1 0,d2,by rw[ni.eta h1],by rw[ni.eta h1];exact h1,h2⟩
theorem ni.VP {x:ni} (h:ka ni.ct x.enc):G3 (.sl [.i,.i,.i,.i,.i,.i,.i]) (.sl x.nC):=oh 0 h rfl rfl
structure pn where
 nu4:Int
 ntL:Int
 npO:Int
 npQ:Bool
def pn.enc (x:pn):List DC:=[.int x.nu4,.int x.ntL,.int x.npO,.bool x.npQ]
def pn.nd (r:List DC) (o:Nat):pn:=⟨rI r (o+0),rI r (o+1),rI r (o+2),rB r (o+3)⟩
def pn.ct:List CT:=[.i,.i,.i,.bool]
theorem pn.eta {r:List DC} (h:ka pn.ct r):(pn.nd r 0).enc=r:=(show (pn.nd r 0).enc=tq pn.ct r 0 from by kernel_rfl).trans (rC h)
theorem pn.nz {r:List CT} {ds:List DC} (h:ka (pn.ct++r) ds):∃(x:pn) (aX:List DC),ds=x.enc++aX∧ka pn.ct x.enc∧ka r aX:=by
 obtain⟨d1,d2,rfl,h1,h2⟩:=qW h
 exact⟨pn.nd d1 0,d2,by rw[pn.eta h1],by rw[pn.eta h1];exact h1,h2⟩
structure nD where
 Key:Bytes
 Table:Rows
def nD.enc (x:nD):List DC:=[.str x.Key,.sl x.Table]
def nD.nd (r:List DC) (o:Nat):nD:=⟨rS r (o+0),rR r (o+1)⟩
def nD.ct:List CT:=[.str,.sl [.i]]
theorem nD.eta {r:List DC} (h:ka nD.ct r):(nD.nd r 0).enc=r:=(show (nD.nd r 0).enc=tq nD.ct r 0 from by kernel_rfl).trans (rC h)
theorem nD.nz {r:List CT} {ds:List DC} (h:ka (nD.ct++r) ds):∃(x:nD) (aX:List DC),ds=x.enc++aX∧ka nD.ct x.enc∧ka r aX:=by
 obtain⟨d1,d2,rfl,h1,h2⟩:=qW h
 exact⟨nD.nd d1 0,d2,by rw[nD.eta h1],by rw[nD.eta h1];exact h1,h2⟩
theorem nD.nw_ {x:nD} (h:ka nD.ct x.enc):G3 .str (.str x.Key):=oh 0 h rfl rfl
theorem nD.VQ {x:nD} (h:ka nD.ct x.enc):G3 (.sl [.i]) (.sl x.Table):=oh 1 h rfl rfl
structure nE where
 oM:Int
 nI:Int
 Count:Int
 pN:Rows
def nE.enc (x:nE):List DC:=[.int x.oM,.int x.nI,.int x.Count,.sl x.pN]
def nE.nd (r:List DC) (o:Nat):nE:=⟨rI r (o+0),rI r (o+1),rI r (o+2),rR r (o+3)⟩
def nE.ct:List CT:=[.i,.i,.i,.sl [.i]]
theorem nE.eta {r:List DC} (h:ka nE.ct r):(nE.nd r 0).enc=r:=(show (nE.nd r 0).enc=tq nE.ct r 0 from by kernel_rfl).trans (rC h)
theorem nE.nz {r:List CT} {ds:List DC} (h:ka (nE.ct++r) ds):∃(x:nE) (aX:List DC),ds=x.enc++aX∧ka nE.ct x.enc∧ka r aX:=by
 obtain⟨d1,d2,rfl,h1,h2⟩:=qW h
 exact⟨nE.nd d1 0,d2,by rw[nE.eta h1],by rw[nE.eta h1];exact h1,h2⟩
theorem nE.nvE {x:nE} (h:ka nE.ct x.enc):G3 .i (.int x.oM):=oh 0 h rfl rfl
theorem nE.nks {x:nE} (h:ka nE.ct x.enc):G3 .i (.int x.nI):=oh 1 h rfl rfl
theorem nE.nkr {x:nE} (h:ka nE.ct x.enc):G3 .i (.int x.Count):=oh 2 h rfl rfl
theorem nE.npJ {x:nE} (h:ka nE.ct x.enc):G3 (.sl [.i]) (.sl x.pN):=oh 3 h rfl rfl
structure nF where
 Kind:Int
 ph:Int
 pg:Int
 Seq:Int
 Ack:Int
 Flags:Int
 wL:Int
 Body:Bytes
def nF.enc (x:nF):List DC:=[.int x.Kind,.int x.ph,.int x.pg,.int x.Seq,.int x.Ack,.int x.Flags,.int x.wL,.str x.Body]
def nF.nd (r:List DC) (o:Nat):nF:=⟨rI r (o+0),rI r (o+1),rI r (o+2),rI r (o+3),rI r (o+4),rI r (o+5),rI r (o+6),rS r (o+7)⟩
def nF.ct:List CT:=[.i,.i,.i,.i,.i,.i,.i,.str]
theorem nF.eta {r:List DC} (h:ka nF.ct r):(nF.nd r 0).enc=r:=(show (nF.nd r 0).enc=tq nF.ct r 0 from by kernel_rfl).trans (rC h)
theorem nF.nz {r:List CT} {ds:List DC} (h:ka (nF.ct++r) ds):∃(x:nF) (aX:List DC),ds=x.enc++aX∧ka nF.ct x.enc∧ka r aX:=by
 obtain⟨d1,d2,rfl,h1,h2⟩:=qW h
 exact⟨nF.nd d1 0,d2,by rw[nF.eta h1],by rw[nF.eta h1];exact h1,h2⟩
theorem nF.npK {x:nF} (h:ka nF.ct x.enc):G3 .i (.int x.Kind):=oh 0 h rfl rfl
theorem nF.nif {x:nF} (h:ka nF.ct x.enc):G3 .i (.int x.ph):=oh 1 h rfl rfl
theorem nF.nie {x:nF} (h:ka nF.ct x.enc):G3 .i (.int x.pg):=oh 2 h rfl rfl
theorem nF.nws {x:nF} (h:ka nF.ct x.enc):G3 .i (.int x.Flags):=oh 5 h rfl rfl
theorem nF.nul {x:nF} (h:ka nF.ct x.enc):G3 .str (.str x.Body):=oh 7 h rfl rfl
structure nQ where
 O2:Int
 O5:Int
 vt:Int
 Tos:Int
 Id:Int
 Ttl:Int
 rk:Int
 rK:Int
 Ow:nF
def nQ.enc (x:nQ):List DC:=[.int x.O2,.int x.O5,.int x.vt,.int x.Tos,.int x.Id,.int x.Ttl,.int x.rk,.int x.rK,.int x.Ow.Kind,.int x.Ow.ph,.int x.Ow.pg,.int x.Ow.Seq,.int x.Ow.Ack,.int x.Ow.Flags,.int x.Ow.wL,.str x.Ow.Body]
def nQ.nd (r:List DC) (o:Nat):nQ:=⟨rI r (o+0),rI r (o+1),rI r (o+2),rI r (o+3),rI r (o+4),rI r (o+5),rI r (o+6),rI r (o+7),nF.nd r (o+8)⟩
def nQ.ct:List CT:=[.i,.i,.i,.i,.i,.i,.i,.i,.i,.i,.i,.i,.i,.i,.i,.str]
theorem nQ.eta {r:List DC} (h:ka nQ.ct r):(nQ.nd r 0).enc=r:=(show (nQ.nd r 0).enc=tq nQ.ct r 0 from by kernel_rfl).trans (rC h)
theorem nQ.nz {r:List CT} {ds:List DC} (h:ka (nQ.ct++r) ds):∃(x:nQ) (aX:List DC),ds=x.enc++aX∧ka nQ.ct x.enc∧ka r aX:=by
 obtain⟨d1,d2,rfl,h1,h2⟩:=qW h
 exact⟨nQ.nd d1 0,d2,by rw[nQ.eta h1],by rw[nQ.eta h1];exact h1,h2⟩
theorem nQ.nvG {x:nQ} (h:ka nQ.ct x.enc):G3 .i (.int x.vt):=oh 2 h rfl rfl
theorem nQ.nxd {x:nQ} (h:ka nQ.ct x.enc):G3 .i (.int x.Tos):=oh 3 h rfl rfl
theorem nQ.nxm {x:nQ} (h:ka nQ.ct x.enc):G3 .i (.int x.Id):=oh 4 h rfl rfl
theorem nQ.nxe {x:nQ} (h:ka nQ.ct x.enc):G3 .i (.int x.Ttl):=oh 5 h rfl rfl
theorem nQ.nkt {x:nQ} (h:ka nQ.ct x.enc):G3 .i (.int x.rk):=oh 6 h rfl rfl
theorem nQ.nsa {x:nQ} (h:ka nQ.ct x.enc):G3 .i (.int x.rK):=oh 7 h rfl rfl
theorem nQ.nxb {x:nQ} (h:ka nQ.ct x.enc):ka nF.ct x.Ow.enc:=yL 8 8 h
structure po where
 om:nQ
 nI:Int
 Count:Int
def po.enc (x:po):List DC:=[.int x.om.O2,.int x.om.O5,.int x.om.vt,.int x.om.Tos,.int x.om.Id,.int x.om.Ttl,.int x.om.rk,.int x.om.rK,.int x.om.Ow.Kind,.int x.om.Ow.ph,.int x.om.Ow.pg,.int x.om.Ow.Seq,.int x.om.Ow.Ack,.int x.om.Ow.Flags,.int x.om.Ow.wL,.str x.om.Ow.Body,.int x.nI,.int x.Count]
def po.nd (r:List DC) (o:Nat):po:=⟨nQ.nd r (o+0),rI r (o+16),rI r (o+17)⟩
def po.ct:List CT:=[.i,.i,.i,.i,.i,.i,.i,.i,.i,.i,.i,.i,.i,.i,.i,.str,.i,.i]
theorem po.eta {r:List DC} (h:ka po.ct r):(po.nd r 0).enc=r:=(show (po.nd r 0).enc=tq po.ct r 0 from by kernel_rfl).trans (rC h)
theorem po.nz {r:List CT} {ds:List DC} (h:ka (po.ct++r) ds):∃(x:po) (aX:List DC),ds=x.enc++aX∧ka po.ct x.enc∧ka r aX:=by
 obtain⟨d1,d2,rfl,h1,h2⟩:=qW h
 exact⟨po.nd d1 0,d2,by rw[po.eta h1],by rw[po.eta h1];exact h1,h2⟩
theorem po.nvZ {x:po} (h:ka po.ct x.enc):ka nQ.ct x.om.enc:=yL 0 16 h
theorem po.nks {x:po} (h:ka po.ct x.enc):G3 .i (.int x.nI):=oh 16 h rfl rfl
theorem po.nkr {x:po} (h:ka po.ct x.enc):G3 .i (.int x.Count):=oh 17 h rfl rfl
structure na where
 nK:Rows
def na.enc (x:na):List DC:=[.sl x.nK]
def na.nd (r:List DC) (o:Nat):na:=⟨rR r (o+0)⟩
def na.ct:List CT:=[.sl [.str]]
theorem na.eta {r:List DC} (h:ka na.ct r):(na.nd r 0).enc=r:=(show (na.nd r 0).enc=tq na.ct r 0 from by kernel_rfl).trans (rC h)
theorem na.nz {r:List CT} {ds:List DC} (h:ka (na.ct++r) ds):∃(x:na) (aX:List DC),ds=x.enc++aX∧ka na.ct x.enc∧ka r aX:=by
 obtain⟨d1,d2,rfl,h1,h2⟩:=qW h
 exact⟨na.nd d1 0,d2,by rw[na.eta h1],by rw[na.eta h1];exact h1,h2⟩
theorem na.w9 {x:na} (h:ka na.ct x.enc):G3 (.sl [.str]) (.sl x.nK):=oh 0 h rfl rfl
structure nm where
 ot:Rows
 Table:ni
 nL:nD
def nm.enc (x:nm):List DC:=[.sl x.ot,.sl x.Table.nC,.str x.nL.Key,.sl x.nL.Table]
def nm.nd (r:List DC) (o:Nat):nm:=⟨rR r (o+0),ni.nd r (o+1),nD.nd r (o+2)⟩
def nm.ct:List CT:=[.sl [.i,.i,.i,.i,.i,.i,.i,.i,.i],.sl [.i,.i,.i,.i,.i,.i,.i],.str,.sl [.i]]
theorem nm.eta {r:List DC} (h:ka nm.ct r):(nm.nd r 0).enc=r:=(show (nm.nd r 0).enc=tq nm.ct r 0 from by kernel_rfl).trans (rC h)
theorem nm.nz {r:List CT} {ds:List DC} (h:ka (nm.ct++r) ds):∃(x:nm) (aX:List DC),ds=x.enc++aX∧ka nm.ct x.enc∧ka r aX:=by
 obtain⟨d1,d2,rfl,h1,h2⟩:=qW h
 exact⟨nm.nd d1 0,d2,by rw[nm.eta h1],by rw[nm.eta h1];exact h1,h2⟩
theorem nm.nsc {x:nm} (h:ka nm.ct x.enc):G3 (.sl [.i,.i,.i,.i,.i,.i,.i,.i,.i]) (.sl x.ot):=oh 0 h rfl rfl
theorem nm.VQ {x:nm} (h:ka nm.ct x.enc):ka ni.ct x.Table.enc:=yL 1 1 h
theorem nm.nv0 {x:nm} (h:ka nm.ct x.enc):ka nD.ct x.nL.enc:=yL 2 2 h
structure oc where
 oM:Int
 nI:Int
 Head:Int
 sQ:Int
def oc.enc (x:oc):List DC:=[.int x.oM,.int x.nI,.int x.Head,.int x.sQ]
def oc.nd (r:List DC) (o:Nat):oc:=⟨rI r (o+0),rI r (o+1),rI r (o+2),rI r (o+3)⟩
def oc.ct:List CT:=[.i,.i,.i,.i]
theorem oc.eta {r:List DC} (h:ka oc.ct r):(oc.nd r 0).enc=r:=(show (oc.nd r 0).enc=tq oc.ct r 0 from by kernel_rfl).trans (rC h)
theorem oc.nz {r:List CT} {ds:List DC} (h:ka (oc.ct++r) ds):∃(x:oc) (aX:List DC),ds=x.enc++aX∧ka oc.ct x.enc∧ka r aX:=by
 obtain⟨d1,d2,rfl,h1,h2⟩:=qW h
 exact⟨oc.nd d1 0,d2,by rw[oc.eta h1],by rw[oc.eta h1];exact h1,h2⟩
theorem oc.nvE {x:oc} (h:ka oc.ct x.enc):G3 .i (.int x.oM):=oh 0 h rfl rfl
theorem oc.nks {x:oc} (h:ka oc.ct x.enc):G3 .i (.int x.nI):=oh 1 h rfl rfl
theorem oc.nwL {x:oc} (h:ka oc.ct x.enc):G3 .i (.int x.Head):=oh 2 h rfl rfl
theorem oc.nwP {x:oc} (h:ka oc.ct x.enc):G3 .i (.int x.sQ):=oh 3 h rfl rfl
structure nf where
 oM:Int
 nI:Int
 Count:Int
def nf.enc (x:nf):List DC:=[.int x.oM,.int x.nI,.int x.Count]
def nf.nd (r:List DC) (o:Nat):nf:=⟨rI r (o+0),rI r (o+1),rI r (o+2)⟩
def nf.ct:List CT:=[.i,.i,.i]
theorem nf.eta {r:List DC} (h:ka nf.ct r):(nf.nd r 0).enc=r:=(show (nf.nd r 0).enc=tq nf.ct r 0 from by kernel_rfl).trans (rC h)
theorem nf.nz {r:List CT} {ds:List DC} (h:ka (nf.ct++r) ds):∃(x:nf) (aX:List DC),ds=x.enc++aX∧ka nf.ct x.enc∧ka r aX:=by
 obtain⟨d1,d2,rfl,h1,h2⟩:=qW h
 exact⟨nf.nd d1 0,d2,by rw[nf.eta h1],by rw[nf.eta h1];exact h1,h2⟩
theorem nf.nvE {x:nf} (h:ka nf.ct x.enc):G3 .i (.int x.oM):=oh 0 h rfl rfl
theorem nf.nks {x:nf} (h:ka nf.ct x.enc):G3 .i (.int x.nI):=oh 1 h rfl rfl
theorem nf.nkr {x:nf} (h:ka nf.ct x.enc):G3 .i (.int x.Count):=oh 2 h rfl rfl
structure nk where
 Ring:oc
 Device:nf
 Driver:nf
 qU:po
 uJ:Bool
 yb:Int
def nk.enc (x:nk):List DC:=[.int x.Ring.oM,.int x.Ring.nI,.int x.Ring.Head,.int x.Ring.sQ,.int x.Device.oM,.int x.Device.nI,.int x.Device.Count,.int x.Driver.oM,.int x.Driver.nI,.int x.Driver.Count,.int x.qU.om.O2,.int x.qU.om.O5,.int x.qU.om.vt,.int x.qU.om.Tos,.int x.qU.om.Id,.int x.qU.om.Ttl,.int x.qU.om.rk,.int x.qU.om.rK,.int x.qU.om.Ow.Kind,.int x.qU.om.Ow.ph,.int x.qU.om.Ow.pg,.int x.qU.om.Ow.Seq,.int x.qU.om.Ow.Ack,.int x.qU.om.Ow.Flags,.int x.qU.om.Ow.wL,.str x.qU.om.Ow.Body,.int x.qU.nI,.int x.qU.Count,.bool x.uJ,.int x.yb]
def nk.nd (r:List DC) (o:Nat):nk:=⟨oc.nd r (o+0),nf.nd r (o+4),nf.nd r (o+7),po.nd r (o+10),rB r (o+28),rI r (o+29)⟩
def nk.ct:List CT:=[.i,.i,.i,.i,.i,.i,.i,.i,.i,.i,.i,.i,.i,.i,.i,.i,.i,.i,.i,.i,.i,.i,.i,.i,.i,.str,.i,.i,.bool,.i]
theorem nk.eta {r:List DC} (h:ka nk.ct r):(nk.nd r 0).enc=r:=(show (nk.nd r 0).enc=tq nk.ct r 0 from by kernel_rfl).trans (rC h)
theorem nk.nz {r:List CT} {ds:List DC} (h:ka (nk.ct++r) ds):∃(x:nk) (aX:List DC),ds=x.enc++aX∧ka nk.ct x.enc∧ka r aX:=by
 obtain⟨d1,d2,rfl,h1,h2⟩:=qW h
 exact⟨nk.nd d1 0,d2,by rw[nk.eta h1],by rw[nk.eta h1];exact h1,h2⟩
theorem nk.nwO {x:nk} (h:ka nk.ct x.enc):ka oc.ct x.Ring.enc:=yL 0 4 h
theorem nk.nwM {x:nk} (h:ka nk.ct x.enc):ka po.ct x.qU.enc:=yL 10 18 h
structure pG where
 uv:Int
 nC:Int
 O0:Rows
def pG.enc (x:pG):List DC:=[.int x.uv,.int x.nC,.sl x.O0]
def pG.nd (r:List DC) (o:Nat):pG:=⟨rI r (o+0),rI r (o+1),rR r (o+2)⟩
def pG.ct:List CT:=[.i,.i,.sl [.i]]
theorem pG.eta {r:List DC} (h:ka pG.ct r):(pG.nd r 0).enc=r:=(show (pG.nd r 0).enc=tq pG.ct r 0 from by kernel_rfl).trans (rC h)
theorem pG.nz {r:List CT} {ds:List DC} (h:ka (pG.ct++r) ds):∃(x:pG) (aX:List DC),ds=x.enc++aX∧ka pG.ct x.enc∧ka r aX:=by
 obtain⟨d1,d2,rfl,h1,h2⟩:=qW h
 exact⟨pG.nd d1 0,d2,by rw[pG.eta h1],by rw[pG.eta h1];exact h1,h2⟩
theorem pG.ntE {x:pG} (h:ka pG.ct x.enc):G3 .i (.int x.uv):=oh 0 h rfl rfl
theorem pG.VP {x:pG} (h:ka pG.ct x.enc):G3 .i (.int x.nC):=oh 1 h rfl rfl
theorem pG.nr_ {x:pG} (h:ka pG.ct x.enc):G3 (.sl [.i]) (.sl x.O0):=oh 2 h rfl rfl
structure nn where
 Ring:oc
 nP:nE
 ny:Rows
 Next:Int
def nn.enc (x:nn):List DC:=[.int x.Ring.oM,.int x.Ring.nI,.int x.Ring.Head,.int x.Ring.sQ,.int x.nP.oM,.int x.nP.nI,.int x.nP.Count,.sl x.nP.pN,.sl x.ny,.int x.Next]
def nn.nd (r:List DC) (o:Nat):nn:=⟨oc.nd r (o+0),nE.nd r (o+4),rR r (o+8),rI r (o+9)⟩
def nn.ct:List CT:=[.i,.i,.i,.i,.i,.i,.i,.sl [.i],.sl [.i,.i,.sl [.i]],.i]
theorem nn.eta {r:List DC} (h:ka nn.ct r):(nn.nd r 0).enc=r:=(show (nn.nd r 0).enc=tq nn.ct r 0 from by kernel_rfl).trans (rC h)
theorem nn.nz {r:List CT} {ds:List DC} (h:ka (nn.ct++r) ds):∃(x:nn) (aX:List DC),ds=x.enc++aX∧ka nn.ct x.enc∧ka r aX:=by
 obtain⟨d1,d2,rfl,h1,h2⟩:=qW h
 exact⟨nn.nd d1 0,d2,by rw[nn.eta h1],by rw[nn.eta h1];exact h1,h2⟩
theorem nn.nwO {x:nn} (h:ka nn.ct x.enc):ka oc.ct x.Ring.enc:=yL 0 4 h
theorem nn.nuo {x:nn} (h:ka nn.ct x.enc):ka nE.ct x.nP.enc:=yL 4 4 h
theorem nn.Rl {x:nn} (h:ka nn.ct x.enc):G3 (.sl [.i,.i,.sl [.i]]) (.sl x.ny):=oh 8 h rfl rfl
theorem nn.nwN {x:nn} (h:ka nn.ct x.enc):G3 .i (.int x.Next):=oh 9 h rfl rfl
structure nO where
 Kind:Int
 rk:Int
 rK:Int
 ph:Int
 pg:Int
def nO.enc (x:nO):List DC:=[.int x.Kind,.int x.rk,.int x.rK,.int x.ph,.int x.pg]
def nO.nd (r:List DC) (o:Nat):nO:=⟨rI r (o+0),rI r (o+1),rI r (o+2),rI r (o+3),rI r (o+4)⟩
def nO.ct:List CT:=[.i,.i,.i,.i,.i]
theorem nO.eta {r:List DC} (h:ka nO.ct r):(nO.nd r 0).enc=r:=(show (nO.nd r 0).enc=tq nO.ct r 0 from by kernel_rfl).trans (rC h)
theorem nO.nz {r:List CT} {ds:List DC} (h:ka (nO.ct++r) ds):∃(x:nO) (aX:List DC),ds=x.enc++aX∧ka nO.ct x.enc∧ka r aX:=by
 obtain⟨d1,d2,rfl,h1,h2⟩:=qW h
 exact⟨nO.nd d1 0,d2,by rw[nO.eta h1],by rw[nO.eta h1];exact h1,h2⟩
theorem nO.npK {x:nO} (h:ka nO.ct x.enc):G3 .i (.int x.Kind):=oh 0 h rfl rfl
theorem nO.nkt {x:nO} (h:ka nO.ct x.enc):G3 .i (.int x.rk):=oh 1 h rfl rfl
theorem nO.nsa {x:nO} (h:ka nO.ct x.enc):G3 .i (.int x.rK):=oh 2 h rfl rfl
theorem nO.nif {x:nO} (h:ka nO.ct x.enc):G3 .i (.int x.ph):=oh 3 h rfl rfl
theorem nO.nie {x:nO} (h:ka nO.ct x.enc):G3 .i (.int x.pg):=oh 4 h rfl rfl
structure ry where
 State:Int
 TK:nO
 Queue:Int
def ry.enc (x:ry):List DC:=[.int x.State,.int x.TK.Kind,.int x.TK.rk,.int x.TK.rK,.int x.TK.ph,.int x.TK.pg,.int x.Queue]
def ry.nd (r:List DC) (o:Nat):ry:=⟨rI r (o+0),nO.nd r (o+1),rI r (o+6)⟩
def ry.ct:List CT:=[.i,.i,.i,.i,.i,.i,.i]
theorem ry.eta {r:List DC} (h:ka ry.ct r):(ry.nd r 0).enc=r:=(show (ry.nd r 0).enc=tq ry.ct r 0 from by kernel_rfl).trans (rC h)
theorem ry.nz {r:List CT} {ds:List DC} (h:ka (ry.ct++r) ds):∃(x:ry) (aX:List DC),ds=x.enc++aX∧ka ry.ct x.enc∧ka r aX:=by
 obtain⟨d1,d2,rfl,h1,h2⟩:=qW h
 exact⟨ry.nd d1 0,d2,by rw[ry.eta h1],by rw[ry.eta h1];exact h1,h2⟩
theorem ry.nwK {x:ry} (h:ka ry.ct x.enc):ka nO.ct x.TK.enc:=yL 1 5 h
theorem ry.nwt {x:ry} (h:ka ry.ct x.enc):G3 .i (.int x.Queue):=oh 6 h rfl rfl
structure nB where
 Qj:Int
 nU:Bool
 pd:Rows
def nB.enc (x:nB):List DC:=[.int x.Qj,.bool x.nU,.sl x.pd]
def nB.nd (r:List DC) (o:Nat):nB:=⟨rI r (o+0),rB r (o+1),rR r (o+2)⟩
def nB.ct:List CT:=[.i,.bool,.sl [.i]]
theorem nB.eta {r:List DC} (h:ka nB.ct r):(nB.nd r 0).enc=r:=(show (nB.nd r 0).enc=tq nB.ct r 0 from by kernel_rfl).trans (rC h)
theorem nB.nz {r:List CT} {ds:List DC} (h:ka (nB.ct++r) ds):∃(x:nB) (aX:List DC),ds=x.enc++aX∧ka nB.ct x.enc∧ka r aX:=by
 obtain⟨d1,d2,rfl,h1,h2⟩:=qW h
 exact⟨nB.nd d1 0,d2,by rw[nB.eta h1],by rw[nB.eta h1];exact h1,h2⟩
theorem nB.nsd {x:nB} (h:ka nB.ct x.enc):G3 (.sl [.i]) (.sl x.pd):=oh 2 h rfl rfl
structure oy where
 TK:nO
 Next:Int
 Data:Bytes
 nwv:Bool
def oy.enc (x:oy):List DC:=[.int x.TK.Kind,.int x.TK.rk,.int x.TK.rK,.int x.TK.ph,.int x.TK.pg,.int x.Next,.str x.Data,.bool x.nwv]
def oy.nd (r:List DC) (o:Nat):oy:=⟨nO.nd r (o+0),rI r (o+5),rS r (o+6),rB r (o+7)⟩
def oy.ct:List CT:=[.i,.i,.i,.i,.i,.i,.str,.bool]
theorem oy.eta {r:List DC} (h:ka oy.ct r):(oy.nd r 0).enc=r:=(show (oy.nd r 0).enc=tq oy.ct r 0 from by kernel_rfl).trans (rC h)
theorem oy.nz {r:List CT} {ds:List DC} (h:ka (oy.ct++r) ds):∃(x:oy) (aX:List DC),ds=x.enc++aX∧ka oy.ct x.enc∧ka r aX:=by
 obtain⟨d1,d2,rfl,h1,h2⟩:=qW h
 exact⟨oy.nd d1 0,d2,by rw[oy.eta h1],by rw[oy.eta h1];exact h1,h2⟩
theorem oy.nwK {x:oy} (h:ka oy.ct x.enc):ka nO.ct x.TK.enc:=yL 0 5 h
theorem oy.nwN {x:oy} (h:ka oy.ct x.enc):G3 .i (.int x.Next):=oh 5 h rfl rfl
theorem oy.nwJ {x:oy} (h:ka oy.ct x.enc):G3 .str (.str x.Data):=oh 6 h rfl rfl
structure nV where
 Frames:Int
 SN:Int
 oY:Int
 pP:Int
 rW:Int
def nV.enc (x:nV):List DC:=[.int x.Frames,.int x.SN,.int x.oY,.int x.pP,.int x.rW]
def nV.nd (r:List DC) (o:Nat):nV:=⟨rI r (o+0),rI r (o+1),rI r (o+2),rI r (o+3),rI r (o+4)⟩
def nV.ct:List CT:=[.i,.i,.i,.i,.i]
theorem nV.eta {r:List DC} (h:ka nV.ct r):(nV.nd r 0).enc=r:=(show (nV.nd r 0).enc=tq nV.ct r 0 from by kernel_rfl).trans (rC h)
theorem nV.nz {r:List CT} {ds:List DC} (h:ka (nV.ct++r) ds):∃(x:nV) (aX:List DC),ds=x.enc++aX∧ka nV.ct x.enc∧ka r aX:=by
 obtain⟨d1,d2,rfl,h1,h2⟩:=qW h
 exact⟨nV.nd d1 0,d2,by rw[nV.eta h1],by rw[nV.eta h1];exact h1,h2⟩
structure nt where
 nZ:na
 Maps:Rows
 Tx:nn
 Rx:Rows
 n_:Rows
 nM:Rows
 ox:Rows
 Filter:nB
 nh:nm
 oF:Rows
 pj:Bool
 sU:Rows
 nY:Rows
 oq:Rows
 Counters:nV
def nt.enc (x:nt):List DC:=[.sl x.nZ.nK,.sl x.Maps,.int x.Tx.Ring.oM,.int x.Tx.Ring.nI,.int x.Tx.Ring.Head,.int x.Tx.Ring.sQ,.int x.Tx.nP.oM,.int x.Tx.nP.nI,.int x.Tx.nP.Count,.sl x.Tx.nP.pN,.sl x.Tx.ny,.int x.Tx.Next,.sl x.Rx,.sl x.n_,.sl x.nM,.sl x.ox,.int x.Filter.Qj,.bool x.Filter.nU,.sl x.Filter.pd,.sl x.nh.ot,.sl x.nh.Table.nC,.str x.nh.nL.Key,.sl x.nh.nL.Table,.sl x.oF,.bool x.pj,.sl x.sU,.sl x.nY,.sl x.oq,.int x.Counters.Frames,.int x.Counters.SN,.int x.Counters.oY,.int x.Counters.pP,.int x.Counters.rW]
def nt.nd (r:List DC) (o:Nat):nt:=⟨na.nd r (o+0),rR r (o+1),nn.nd r (o+2),rR r (o+12),rR r (o+13),rR r (o+14),rR r (o+15),nB.nd r (o+16),nm.nd r (o+19),rR r (o+23),rB r (o+24),rR r (o+25),rR r (o+26),rR r (o+27),nV.nd r (o+28)⟩
def nt.ct:List CT:=[.sl [.str],.sl [.i,.i,.i,.bool],.i,.i,.i,.i,.i,.i,.i,.sl [.i],.sl [.i,.i,.sl [.i]],.i,.sl [.i,.i,.i,.i,.i,.i,.i,.i,.i,.i,.i,.i,.i,.i,.i,.i,.i,.i,.i,.i,.i,.i,.i,.i,.i,.str,.i,.i,.bool,.i],.sl [.i,.i,.i,.sl [.i]],.sl [.i,.i,.i,.i,.bool,.bool],.sl [.bool],.i,.bool,.sl [.i],.sl [.i,.i,.i,.i,.i,.i,.i,.i,.i],.sl [.i,.i,.i,.i,.i,.i,.i],.str,.sl [.i],.sl [.i,.i,.i,.i,.i,.i,.str,.bool],.bool,.sl [.str],.sl [.i],.sl [.i],.i,.i,.i,.i,.i]
theorem nt.eta {r:List DC} (h:ka nt.ct r):(nt.nd r 0).enc=r:=(show (nt.nd r 0).enc=tq nt.ct r 0 from by kernel_rfl).trans (rC h)
theorem nt.nz {r:List CT} {ds:List DC} (h:ka (nt.ct++r) ds):∃(x:nt) (aX:List DC),ds=x.enc++aX∧ka nt.ct x.enc∧ka r aX:=by
 obtain⟨d1,d2,rfl,h1,h2⟩:=qW h
 exact⟨nt.nd d1 0,d2,by rw[nt.eta h1],by rw[nt.eta h1];exact h1,h2⟩
theorem nt.ntF {x:nt} (h:ka nt.ct x.enc):ka na.ct x.nZ.enc:=yL 0 1 h
theorem nt.nvF {x:nt} (h:ka nt.ct x.enc):G3 (.sl [.i,.i,.i,.bool]) (.sl x.Maps):=oh 1 h rfl rfl
theorem nt.nwT {x:nt} (h:ka nt.ct x.enc):ka nn.ct x.Tx.enc:=yL 2 10 h
theorem nt.nwu {x:nt} (h:ka nt.ct x.enc):G3 (.sl [.i,.i,.i,.i,.i,.i,.i,.i,.i,.i,.i,.i,.i,.i,.i,.i,.i,.i,.i,.i,.i,.i,.i,.i,.i,.str,.i,.i,.bool,.i]) (.sl x.Rx):=oh 12 h rfl rfl
theorem nt.nsb {x:nt} (h:ka nt.ct x.enc):G3 (.sl [.i,.i,.i,.sl [.i]]) (.sl x.n_):=oh 13 h rfl rfl
theorem nt.nig {x:nt} (h:ka nt.ct x.enc):G3 (.sl [.i,.i,.i,.i,.bool,.bool]) (.sl x.nM):=oh 14 h rfl rfl
theorem nt.nvk {x:nt} (h:ka nt.ct x.enc):G3 (.sl [.bool]) (.sl x.ox):=oh 15 h rfl rfl
theorem nt.nvY {x:nt} (h:ka nt.ct x.enc):ka nB.ct x.Filter.enc:=yL 16 3 h
theorem nt.nu1 {x:nt} (h:ka nt.ct x.enc):ka nm.ct x.nh.enc:=yL 19 4 h
theorem nt.nvl {x:nt} (h:ka nt.ct x.enc):G3 (.sl [.i,.i,.i,.i,.i,.i,.str,.bool]) (.sl x.oF):=oh 23 h rfl rfl
theorem nt.nwQ {x:nt} (h:ka nt.ct x.enc):G3 (.sl [.str]) (.sl x.sU):=oh 25 h rfl rfl
theorem nt.nun {x:nt} (h:ka nt.ct x.enc):G3 (.sl [.i]) (.sl x.nY):=oh 26 h rfl rfl
theorem nt.nu0 {x:nt} (h:ka nt.ct x.enc):G3 (.sl [.i]) (.sl x.oq):=oh 27 h rfl rfl
structure qj where
 Priority:Int
 Kind:Int
 rk:Int
 npF:Int
 XW:Int
 ncF:Int
 vt:Int
 Action:Int
 Queue:Int
def qj.enc (x:qj):List DC:=[.int x.Priority,.int x.Kind,.int x.rk,.int x.npF,.int x.XW,.int x.ncF,.int x.vt,.int x.Action,.int x.Queue]
def qj.nd (r:List DC) (o:Nat):qj:=⟨rI r (o+0),rI r (o+1),rI r (o+2),rI r (o+3),rI r (o+4),rI r (o+5),rI r (o+6),rI r (o+7),rI r (o+8)⟩
def qj.ct:List CT:=[.i,.i,.i,.i,.i,.i,.i,.i,.i]
theorem qj.eta {r:List DC} (h:ka qj.ct r):(qj.nd r 0).enc=r:=(show (qj.nd r 0).enc=tq qj.ct r 0 from by kernel_rfl).trans (rC h)
theorem qj.nz {r:List CT} {ds:List DC} (h:ka (qj.ct++r) ds):∃(x:qj) (aX:List DC),ds=x.enc++aX∧ka qj.ct x.enc∧ka r aX:=by
 obtain⟨d1,d2,rfl,h1,h2⟩:=qW h
 exact⟨qj.nd d1 0,d2,by rw[qj.eta h1],by rw[qj.eta h1];exact h1,h2⟩
theorem qj.npK {x:qj} (h:ka qj.ct x.enc):G3 .i (.int x.Kind):=oh 1 h rfl rfl
theorem qj.nkt {x:qj} (h:ka qj.ct x.enc):G3 .i (.int x.rk):=oh 2 h rfl rfl
theorem qj.nvG {x:qj} (h:ka qj.ct x.enc):G3 .i (.int x.vt):=oh 6 h rfl rfl
theorem qj.nwt {x:qj} (h:ka qj.ct x.enc):G3 .i (.int x.Queue):=oh 8 h rfl rfl
structure nA where
 yR:Int
 O3:Int
 Count:Int
 Time:Int
 Qr:Bool
 Qs:Bool
def nA.enc (x:nA):List DC:=[.int x.yR,.int x.O3,.int x.Count,.int x.Time,.bool x.Qr,.bool x.Qs]
def nA.nd (r:List DC) (o:Nat):nA:=⟨rI r (o+0),rI r (o+1),rI r (o+2),rI r (o+3),rB r (o+4),rB r (o+5)⟩
def nA.ct:List CT:=[.i,.i,.i,.i,.bool,.bool]
theorem nA.eta {r:List DC} (h:ka nA.ct r):(nA.nd r 0).enc=r:=(show (nA.nd r 0).enc=tq nA.ct r 0 from by kernel_rfl).trans (rC h)
theorem nA.nz {r:List CT} {ds:List DC} (h:ka (nA.ct++r) ds):∃(x:nA) (aX:List DC),ds=x.enc++aX∧ka nA.ct x.enc∧ka r aX:=by
 obtain⟨d1,d2,rfl,h1,h2⟩:=qW h
 exact⟨nA.nd d1 0,d2,by rw[nA.eta h1],by rw[nA.eta h1];exact h1,h2⟩
theorem nA.nkr {x:nA} (h:ka nA.ct x.enc):G3 .i (.int x.Count):=oh 2 h rfl rfl
def toL (rf:List DC→List DC) {α:Type} (kd:α) (k_:Rows→α) (a:Rows) (oL:Int→Rows→α) (i:Int) (out:Rows):α:=
 bif decide (i<len a) then bif Ec (Ec (Ec true (idx i a)) (idx i out)) (inl (Int.toNat i) out) then oL (nS (i+1)) (List.set out (Int.toNat i) (bQ (nth out (Int.toNat i)) 0 (rf (nth a (Int.toNat i))))) else kd else k_ out
def nmO (rf:List DC→List DC) {α:Type} (kd:α) (k_:Rows→α) (N:Nat) (a:Rows) (m_:Nat):Int→Rows→α:=
 Nat.rec (motive:=fun _=>Int→Rows→α) (fun _ _=>kd) (fun _ oL=>toL rf kd k_ a oL) m_
def toT (z:Nat) (d:List DC) {α:Type} (kd:α) (k_:Rows→α) (l0:Int→Rows→α) (a:Rows):α:=
 bif Ec true (wW z (len a) (len a)) then l0 0 (List.replicate (Int.toNat (len a)) d) else kd
def Z9 (z:Nat) (d:List DC) (rf:List DC→List DC) {α:Type} (kd:α) (k_:Rows→α) (N:Nat) (a:Rows):α:=toT z d kd k_ (nmO rf kd k_ N a N) a
theorem nuk {α:Type} (z:Nat) (hz:z≤8388608) (d:List DC) (rf:List DC→List DC) (kd:α) (k_:Rows→α) (a:Rows) (hl:a.length≤9223372036854775807) (Jc:sm a=true) (hr:∀r∈a,bQ d 0 (rf r)=r):∃N,Z9 z d rf kd k_ N a=k_ a:=by
 refine⟨a.length+1, ?_⟩
 unfold Z9 toT
 have e0:Int.toNat (len a)=a.length:=by simp [len]
 simp only[nt5 Jc hz,ng,cond_true,e0]
 refine npW a (nmO rf kd k_ (a.length+1) a) k_ d (fun o r=>bQ o 0 (rf r)) ?_ ?_ hr
 ·intro n i out h ho
  show toL rf kd k_ a (nmO rf kd k_ (a.length+1) a n) (i:Int) out=_
  simp only[toL,pL h,n9 h,ntS ho h,sF (show i<out.length by omega),oE h hl,Int.toNat_natCast,ng,nv,cond_true]
 ·intro n out ho
  show toL rf kd k_ a (nmO rf kd k_ (a.length+1) a n) (a.length:Int) out=_
  simp only[toL,nX,cond_false]
def eqL {σ:Type} (dec:List DC→σ) {α:Type} (kd:α) (k_:Bool→α) (a b:Rows) (oL:Int→α) (i:Int):α:=
 bif decide (i<len a) then bif Ec (Ec (Ec true (idx i a)) (idx i b)) (same (dec (nth a (Int.toNat i))) (dec (nth b (Int.toNat i)))) then bif !(pK (dec (nth a (Int.toNat i))) (dec (nth b (Int.toNat i)))) then k_ false else oL (nS (i+1)) else kd else k_ true
def nng {σ:Type} (dec:List DC→σ) {α:Type} (kd:α) (k_:Bool→α) (N:Nat) (a b:Rows) (m_:Nat):Int→α:=
 Nat.rec (motive:=fun _=>Int→α) (fun _=>kd) (fun _ oL=>eqL dec kd k_ a b oL) m_
def eqT {α:Type} (kd:α) (k_:Bool→α) (l0:Int→α) (a b:Rows):α:=bif (len a) != (len b) then k_ false else l0 0
def ncC {σ:Type} (dec:List DC→σ) {α:Type} (kd:α) (k_:Bool→α) (N:Nat) (a b:Rows):α:=eqT kd k_ (nng dec kd k_ N a b N) a b
theorem nux {α σ:Type} (dec:List DC→σ) (kd:α) (k_:Bool→α) (a b:Rows) (hl:a.length≤9223372036854775807) (aJ:same a b=true):∃N,ncC dec kd k_ N a b=k_ (pK a b):=by
 obtain rfl:=sA aJ
 refine⟨a.length+1, ?_⟩
 unfold ncC eqT
 simp only[bne_self_eq_false,cond_false]
 refine (sJ a (nng dec kd k_ (a.length+1) a a) (fun _ _ c=>c) (k_ true) ?_ ?_).trans (npH _ _ _)
 ·intro n i h
  show eqL dec kd k_ a a (nng dec kd k_ (a.length+1) a a n) (i:Int)=_
  simp only[eqL,pL h,n9 h,oE h hl,Int.toNat_natCast,ng,nv,cond_true,cond_false,qu,pK,Bool.not_true]
 ·intro n
  show eqL dec kd k_ a a (nng dec kd k_ (a.length+1) a a n) (a.length:Int)=_
  simp only[eqL,nX,cond_false]
def nq0 {α:Type} (k_:Int→α) (a:Rows) (left:Int):α:=
 bif decide (nS (left - (len a))<0) then k_ (-1)
 else k_ (nS (left - (len a)))
theorem wV {α:Type} (k_:Int→α) (a:Rows) (left:Int):nq0 k_ a left=k_ (pF a left):=by
 exact J5 rfl rfl
def OJ {α:Type} (k_:Int→α) (a:ni) (left:Int):α:=
 bif decide (pF a.nC left<0) then k_ (-1)
 else k_ (pF a.nC left)
def tl (a:ni) (left:Int):Int:=OJ id a left
theorem nhC {α:Type} (k_:Int→α) (a:ni) (left:Int):OJ k_ a left=k_ (tl a left):=by
 exact J5 rfl rfl
def YC {α:Type} (k_:Bool→α) (a b:pn):α:=
 bif a.nu4 != b.nu4 then k_ false
 else bif a.ntL != b.ntL then k_ false
 else bif a.npO != b.npO then k_ false
 else bif !(a.npQ==b.npQ) then k_ false
 else k_ true
theorem nk4 {α:Type} (k_:Bool→α) (a b:pn) (aJ:same a b=true):YC k_ a b=k_ (pK a b):=by
 obtain rfl:=sA aJ
 simp only[YC,qu,pK,bne_self_eq_false,beq_self_eq_true,Bool.not_true,cond_false,cond_true,ng,nv]
def nr7:List DC→List DC:=fun r=>[.int (rI r 0)]
theorem nsV (k_:Rows→α) (a:Rows) (qV:G3 (.sl [.i]) (.sl a)) (aJ:sm a=true):∃N,Z9 8 [.int 0] nr7 kd k_ N a=k_ (oB a):=by
 obtain⟨hl,hw⟩:=oS qV
 exact nuk 8 (by omega) [.int 0] nr7 kd k_ a hl aJ (fun r hr=>(sk rfl).trans (by exact nwF (hw r hr)))
def Of (k_:nD→α) (a:nD):α:=
 bif Ec true (sm a.Table) then
  k_ (⟨a.Key,oB a.Table⟩:nD)
 else kd
def uY (a:nD):Bool:=Of false (fun _=>true) a
theorem noR (k_:nD→α) (a:nD) (aJ:uY a=true):Of kd k_ a=k_ (oB a):=by
 exact sn (fun _=>rfl) aJ
def PK (k_:Bool→α) (a b:Rows) (oL:Int→α) (i:Int):α:=
 bif decide (i<len a) then
  bif Ec (Ec true (idx i a)) (idx i b) then
   bif (rI (nth a (Int.toNat i)) 0) != (rI (nth b (Int.toNat i)) 0) then k_ false
   else oL (nS (i+1))
  else kd
 else k_ true
def PJ (k_:Bool→α) (N:Nat) (a b:Rows) (m_:Nat):Int→α:=
 Nat.rec (motive:=fun _=>Int→α) (fun _=>kd) (fun _ oL=>PK kd k_ a b oL) m_
theorem YA (k_:Bool→α) (N:Nat) (a b:Rows) (m_:Nat):PJ kd k_ N a b (m_+1)=PK kd k_ a b (PJ kd k_ N a b m_):=rfl
def XG {α:Type} (kd:α) (k_:Bool→α) (l0:Int→α) (a b:Rows):α:=
 bif (len a) != (len b) then k_ false
 else l0 0
def ngb (k_:Bool→α) (N:Nat) (a b:Rows):α:=XG kd k_ (PJ kd k_ N a b N) a b
theorem nsD (k_:Bool→α) (a b:Rows) (qV:G3 (.sl [.i]) (.sl a)) (aJ:same a b=true):∃N,ngb kd k_ N a b=k_ (pK a b):=by
 obtain rfl:=sA aJ
 obtain⟨hl,_⟩:=oS qV
 refine⟨a.length+1, ?_⟩
 unfold ngb XG
 simp only[bne_self_eq_false,cond_false]
 refine (sJ a (PJ kd k_ (a.length+1) a a) (fun _ _ c=>c) (k_ true) ?_ ?_).trans (npH _ _ _)
 ·intro n i h
  rw[YA]
  simp only[PK,pL h,n9 h,oE h hl,Int.toNat_natCast,ng,nv,cond_true,cond_false,bne_self_eq_false,beq_self_eq_true,Bool.not_true,qu,pK]
 ·intro n
  rw[YA]
  simp only[PK,nX,cond_false]
def ngd (k_:Bool→α) (a b:nE):α:=
 bif a.oM != b.oM then k_ false
 else bif a.nI != b.nI then k_ false
 else bif a.Count != b.Count then k_ false
 else bif Ec true (same a.pN b.pN) then
   bif !(pK a.pN b.pN) then k_ false
   else k_ true
  else kd
theorem nsE (k_:Bool→α) (a b:nE) (aJ:same a b=true):ngd kd k_ a b=k_ (pK a b):=by
 obtain rfl:=sA aJ
 simp only[ngd,qu,pK,bne_self_eq_false,beq_self_eq_true,Bool.not_true,cond_false,cond_true,ng,nv]
theorem nqB (k_:Bool→α) (a b:Rows) (qV:G3 (.sl [.i,.i,.i,.sl [.i]]) (.sl a)) (aJ:same a b=true):∃N,ncC (fun r=>nE.nd r 0) kd k_ N a b=k_ (pK a b):=by
 exact nux (fun r=>nE.nd r 0) kd k_ a b (oS qV).1 aJ
def neQ:List DC→List DC:=fun r=>[.str (rS r 0)]
theorem nl_ (k_:Rows→α) (a:Rows) (qV:G3 (.sl [.str]) (.sl a)) (aJ:sm a=true):∃N,Z9 16 [.str []] neQ kd k_ N a=k_ (oB a):=by
 obtain⟨hl,hw⟩:=oS qV
 exact nuk 16 (by omega) [.str []] neQ kd k_ a hl aJ (fun r hr=>(sk rfl).trans (by exact nua (hw r hr)))
def QU {α:Type} (k_:Int→α) (a:nF) (left:Int):α:=
 let z0:Int:=nS (left - (len a.Body))
 bif decide (z0<0) then k_ (-1)
 else k_ z0
def uh (a:nF) (left:Int):Int:=QU id a left
theorem nlN {α:Type} (k_:Int→α) (a:nF) (left:Int):QU k_ a left=k_ (uh a left):=by
 exact J5 rfl rfl
def Sz {α:Type} (k_:Int→α) (a:nQ) (left:Int):α:=
 bif decide (uh a.Ow left<0) then k_ (-1)
 else k_ (uh a.Ow left)
def uN (a:nQ) (left:Int):Int:=Sz id a left
theorem nou {α:Type} (k_:Int→α) (a:nQ) (left:Int):Sz k_ a left=k_ (uN a left):=by
 exact J5 rfl rfl
def Vb {α:Type} (k_:Int→α) (a:po) (left:Int):α:=
 bif decide (uN a.om left<0) then k_ (-1)
 else k_ (uN a.om left)
def v7 (a:po) (left:Int):Int:=Vb id a left
theorem nq1 {α:Type} (k_:Int→α) (a:po) (left:Int):Vb k_ a left=k_ (v7 a left):=by
 exact J5 rfl rfl
def yl (k_:Bool→α) (a b:Rows) (oL:Int→α) (i:Int):α:=
 bif decide (i<len a) then
  bif Ec (Ec true (idx i a)) (idx i b) then
   bif !((rS (nth a (Int.toNat i)) 0)==(rS (nth b (Int.toNat i)) 0)) then k_ false
   else oL (nS (i+1))
  else kd
 else k_ true
def yk (k_:Bool→α) (N:Nat) (a b:Rows) (m_:Nat):Int→α:=
 Nat.rec (motive:=fun _=>Int→α) (fun _=>kd) (fun _ oL=>yl kd k_ a b oL) m_
theorem S4 (k_:Bool→α) (N:Nat) (a b:Rows) (m_:Nat):yk kd k_ N a b (m_+1)=yl kd k_ a b (yk kd k_ N a b m_):=rfl
def QB {α:Type} (kd:α) (k_:Bool→α) (l0:Int→α) (a b:Rows):α:=
 bif (len a) != (len b) then k_ false
 else l0 0
def YM (k_:Bool→α) (N:Nat) (a b:Rows):α:=QB kd k_ (yk kd k_ N a b N) a b
theorem nlc (k_:Bool→α) (a b:Rows) (qV:G3 (.sl [.str]) (.sl a)) (aJ:same a b=true):∃N,YM kd k_ N a b=k_ (pK a b):=by
 obtain rfl:=sA aJ
 obtain⟨hl,_⟩:=oS qV
 refine⟨a.length+1, ?_⟩
 unfold YM QB
 simp only[bne_self_eq_false,cond_false]
 refine (sJ a (yk kd k_ (a.length+1) a a) (fun _ _ c=>c) (k_ true) ?_ ?_).trans (npH _ _ _)
 ·intro n i h
  rw[S4]
  simp only[yl,pL h,n9 h,oE h hl,Int.toNat_natCast,ng,nv,cond_true,cond_false,bne_self_eq_false,beq_self_eq_true,Bool.not_true,qu,pK]
 ·intro n
  rw[S4]
  simp only[yl,nX,cond_false]
def nbq (k_:Bool→α) (a b:na):α:=
 bif Ec true (same a.nK b.nK) then
  bif !(pK a.nK b.nK) then k_ false
  else k_ true
 else kd
theorem nnW (k_:Bool→α) (a b:na) (aJ:same a b=true):nbq kd k_ a b=k_ (pK a b):=by
 obtain rfl:=sA aJ
 simp only[nbq,qu,pK,bne_self_eq_false,beq_self_eq_true,Bool.not_true,cond_false,cond_true,ng,nv]
def RF (k_:nE→α) (a:nE):α:=
 bif Ec true (sm a.pN) then
  k_ (⟨a.oM,a.nI,a.Count,oB a.pN⟩:nE)
 else kd
def tD (a:nE):Bool:=RF false (fun _=>true) a
theorem nsW (k_:nE→α) (a:nE) (aJ:tD a=true):RF kd k_ a=k_ (oB a):=by
 exact sn (fun _=>rfl) aJ
def SA {α:Type} (k_:Int→α) (a:nD) (left:Int):α:=
 let z0:Int:=nS (left - (len a.Key))
 let z1:Int:=pF a.Table z0
 bif decide (z0<0) then k_ (-1)
 else bif decide (z1<0) then k_ (-1)
 else k_ z1
def wm (a:nD) (left:Int):Int:=SA id a left
theorem noA {α:Type} (k_:Int→α) (a:nD) (left:Int):SA k_ a left=k_ (wm a left):=by
 exact J5 rfl (J5 rfl rfl)
def PQ {α:Type} (k_:Int→α) (a:nm) (left:Int):α:=
 let z0:Int:=tl a.Table (pF a.ot left)
 let z1:Int:=wm a.nL z0
 bif decide (pF a.ot left<0) then k_ (-1)
 else bif decide (z0<0) then k_ (-1)
 else bif decide (z1<0) then k_ (-1)
 else k_ z1
def rO (a:nm) (left:Int):Int:=PQ id a left
theorem njD {α:Type} (k_:Int→α) (a:nm) (left:Int):PQ k_ a left=k_ (rO a left):=by
 exact J5 rfl (J5 rfl (J5 rfl rfl))
def ngf {α:Type} (k_:Bool→α) (a b:oc):α:=
 bif a.oM != b.oM then k_ false
 else bif a.nI != b.nI then k_ false
 else bif a.Head != b.Head then k_ false
 else bif a.sQ != b.sQ then k_ false
 else k_ true
theorem nsF {α:Type} (k_:Bool→α) (a b:oc) (aJ:same a b=true):ngf k_ a b=k_ (pK a b):=by
 obtain rfl:=sA aJ
 simp only[ngf,qu,pK,bne_self_eq_false,beq_self_eq_true,Bool.not_true,cond_false,cond_true,ng,nv]
def NB {α:Type} (k_:Bool→α) (a b:nf):α:=
 bif a.oM != b.oM then k_ false
 else bif a.nI != b.nI then k_ false
 else bif a.Count != b.Count then k_ false
 else k_ true
theorem XD {α:Type} (k_:Bool→α) (a b:nf) (aJ:same a b=true):NB k_ a b=k_ (pK a b):=by
 obtain rfl:=sA aJ
 simp only[NB,qu,pK,bne_self_eq_false,beq_self_eq_true,Bool.not_true,cond_false,cond_true,ng,nv]
def YG {α:Type} (k_:Bool→α) (a b:nF):α:=
 bif a.Kind != b.Kind then k_ false
 else bif a.ph != b.ph then k_ false
 else bif a.pg != b.pg then k_ false
 else bif a.Seq != b.Seq then k_ false
 else bif a.Ack != b.Ack then k_ false
 else bif a.Flags != b.Flags then k_ false
 else bif a.wL != b.wL then k_ false
 else bif !(a.Body==b.Body) then k_ false
 else k_ true
theorem nk8 {α:Type} (k_:Bool→α) (a b:nF) (aJ:same a b=true):YG k_ a b=k_ (pK a b):=by
 obtain rfl:=sA aJ
 simp only[YG,qu,pK,bne_self_eq_false,beq_self_eq_true,Bool.not_true,cond_false,cond_true,ng,nv]
def nbs (k_:Bool→α) (a b:nQ):α:=
 bif a.O2 != b.O2 then k_ false
 else bif a.O5 != b.O5 then k_ false
 else bif a.vt != b.vt then k_ false
 else bif a.Tos != b.Tos then k_ false
 else bif a.Id != b.Id then k_ false
 else bif a.Ttl != b.Ttl then k_ false
 else bif a.rk != b.rk then k_ false
 else bif a.rK != b.rK then k_ false
 else bif Ec true (same a.Ow b.Ow) then
   bif !(pK a.Ow b.Ow) then k_ false
   else k_ true
  else kd
theorem nnY (k_:Bool→α) (a b:nQ) (aJ:same a b=true):nbs kd k_ a b=k_ (pK a b):=by
 obtain rfl:=sA aJ
 simp only[nbs,qu,pK,bne_self_eq_false,beq_self_eq_true,Bool.not_true,cond_false,cond_true,ng,nv]
def ndn (k_:Bool→α) (a b:po):α:=
 bif Ec true (same a.om b.om) then
  bif !(pK a.om b.om) then k_ false
  else bif a.nI != b.nI then k_ false
  else bif a.Count != b.Count then k_ false
  else k_ true
 else kd
theorem nqN (k_:Bool→α) (a b:po) (aJ:same a b=true):ndn kd k_ a b=k_ (pK a b):=by
 obtain rfl:=sA aJ
 simp only[ndn,qu,pK,bne_self_eq_false,beq_self_eq_true,Bool.not_true,cond_false,cond_true,ng,nv]
def YE (k_:Bool→α) (a b:nk):α:=
 bif Ec true (same a.Ring b.Ring) then
  bif !(pK a.Ring b.Ring) then k_ false
  else bif Ec true (same a.Device b.Device) then
    bif !(pK a.Device b.Device) then k_ false
    else bif Ec true (same a.Driver b.Driver) then
      bif !(pK a.Driver b.Driver) then k_ false
      else bif Ec true (same a.qU b.qU) then
        bif !(pK a.qU b.qU) then k_ false
        else bif !(a.uJ==b.uJ) then k_ false
        else bif a.yb != b.yb then k_ false
        else k_ true
       else kd
     else kd
   else kd
 else kd
theorem nk6 (k_:Bool→α) (a b:nk) (aJ:same a b=true):YE kd k_ a b=k_ (pK a b):=by
 obtain rfl:=sA aJ
 simp only[YE,qu,pK,bne_self_eq_false,beq_self_eq_true,Bool.not_true,cond_false,cond_true,ng,nv]
def ngj (k_:Bool→α) (a b:pG):α:=
 bif a.uv != b.uv then k_ false
 else bif a.nC != b.nC then k_ false
 else bif Ec true (same a.O0 b.O0) then
   bif !(pK a.O0 b.O0) then k_ false
   else k_ true
  else kd
theorem nsI (k_:Bool→α) (a b:pG) (aJ:same a b=true):ngj kd k_ a b=k_ (pK a b):=by
 obtain rfl:=sA aJ
 simp only[ngj,qu,pK,bne_self_eq_false,beq_self_eq_true,Bool.not_true,cond_false,cond_true,ng,nv]
theorem nqH (k_:Bool→α) (a b:Rows) (qV:G3 (.sl [.i,.i,.sl [.i]]) (.sl a)) (aJ:same a b=true):∃N,ncC (fun r=>pG.nd r 0) kd k_ N a b=k_ (pK a b):=by
 exact nux (fun r=>pG.nd r 0) kd k_ a b (oS qV).1 aJ
def YP (k_:Bool→α) (a b:nn):α:=
 bif Ec true (same a.Ring b.Ring) then
  bif !(pK a.Ring b.Ring) then k_ false
  else bif Ec true (same a.nP b.nP) then
    bif !(pK a.nP b.nP) then k_ false
    else bif Ec true (same a.ny b.ny) then
      bif !(pK a.ny b.ny) then k_ false
      else bif a.Next != b.Next then k_ false
      else k_ true
     else kd
   else kd
 else kd
theorem nld (k_:Bool→α) (a b:nn) (aJ:same a b=true):YP kd k_ a b=k_ (pK a b):=by
 obtain rfl:=sA aJ
 simp only[YP,qu,pK,bne_self_eq_false,beq_self_eq_true,Bool.not_true,cond_false,cond_true,ng,nv]
def nsS {α:Type} (k_:nO→α) (a:nO):α:=
 k_ a
theorem nsR {α:Type} (k_:nO→α) (a:nO):nsS k_ a=k_ (oB a):=by
 rfl
def ns6 {α:Type} (k_:ry→α) (a:ry):α:=
 k_ (⟨a.State,oB a.TK,a.Queue⟩:ry)
theorem ns4 {α:Type} (k_:ry→α) (a:ry):ns6 k_ a=k_ (oB a):=by
 rfl
def nmQ:List DC→List DC:=fun r=>ry.enc (oB (ry.nd r 0))
theorem nre (k_:Rows→α) (a:Rows) (qV:G3 (.sl [.i,.i,.i,.i,.i,.i,.i]) (.sl a)) (aJ:sm a=true):∃N,Z9 56 [.int 0,.int 0,.int 0,.int 0,.int 0,.int 0,.int 0] nmQ kd k_ N a=k_ (oB a):=by
 obtain⟨hl,hw⟩:=oS qV
 exact nuk 56 (by omega) [.int 0,.int 0,.int 0,.int 0,.int 0,.int 0,.int 0] nmQ kd k_ a hl aJ (fun r hr=>(sk rfl).trans (by exact ry.eta (hw r hr)))
def xo (k_:ni→α) (a:ni):α:=
 bif Ec true (sm a.nC) then
  k_ (⟨oB a.nC⟩:ni)
 else kd
def tL (a:ni):Bool:=xo false (fun _=>true) a
theorem nhH (k_:ni→α) (a:ni) (aJ:tL a=true):xo kd k_ a=k_ (oB a):=by
 exact sn (fun _=>rfl) aJ
def RD {α:Type} (k_:Int→α) (a:pG) (left:Int):α:=
 bif decide (pF a.O0 left<0) then k_ (-1)
 else k_ (pF a.O0 left)
def sH (a:pG) (left:Int):Int:=RD id a left
theorem nsP {α:Type} (k_:Int→α) (a:pG) (left:Int):RD k_ a left=k_ (sH a left):=by
 exact J5 rfl rfl
def N9 (k_:Int→α) (a:Rows) (oL:Int→Int→α) (uK i:Int):α:=
 let z0:Int:=sH (pG.nd (nth a (Int.toNat i)) 0) uK
 bif decide (i<len a) then
  bif Ec true (idx i a) then
   bif decide (z0<0) then k_ (-1)
   else oL z0 (nS (i+1))
  else kd
 else k_ uK
def N8 (k_:Int→α) (N:Nat) (a:Rows) (m_:Nat):Int→Int→α:=
 Nat.rec (motive:=fun _=>Int→Int→α) (fun _ _=>kd) (fun _ oL=>N9 kd k_ a oL) m_
theorem WL (k_:Int→α) (N:Nat) (a:Rows) (m_:Nat):N8 kd k_ N a (m_+1)=N9 kd k_ a (N8 kd k_ N a m_):=rfl
def Va {α:Type} (kd:α) (k_:Int→α) (l0:Int→Int→α) (a:Rows) (left:Int):α:=
 bif decide (nS (left - (len a))<0) then k_ (-1)
 else l0 (nS (left - (len a))) 0
def ndH (k_:Int→α) (N:Nat) (a:Rows) (left:Int):α:=Va kd k_ (N8 kd k_ N a N) a left
def t9 (a:Rows) (left:Int):Int:=Xe (fun r l=>sH (pG.nd r 0) l) a left
theorem nqV (k_:Int→α) (a:Rows) (left:Int) (qV:G3 (.sl [.i,.i,.sl [.i]]) (.sl a)):∃N,ndH kd k_ N a left=k_ (t9 a left):=by
 obtain⟨hl,_⟩:=oS qV
 refine⟨a.length+1, ?_⟩
 unfold ndH Va t9 Xe
 refine J5 rfl ?_
 refine (TH a (fun n i l=>N8 kd k_ (a.length+1) a n l i) (fun _ r c l=>bif decide ((fun r l=>sH (pG.nd r 0) l) r l<0) then k_ (-1) else c ((fun r l=>sH (pG.nd r 0) l) r l)) k_ ?_ ?_ _).trans (nts (fun r l=>sH (pG.nd r 0) l) k_ a 0 _)
 ·intro n i l h
  try dsimp only
  rw[WL]
  simp only[N9,pL h,n9 h,oE h hl,Int.toNat_natCast,ng,nv,cond_true]
 ·intro n l
  try dsimp only
  rw[WL]
  simp only[N9,nX,cond_false]
def RG (k_:pG→α) (a:pG):α:=
 bif Ec true (sm a.O0) then
  k_ (⟨a.uv,a.nC,oB a.O0⟩:pG)
 else kd
def ui (a:pG):Bool:=RG false (fun _=>true) a
theorem ns2 (k_:pG→α) (a:pG) (aJ:ui a=true):RG kd k_ a=k_ (oB a):=by
 exact sn (fun _=>rfl) aJ
def Oc (k_:Rows→α) (a:Rows) (oL:Int→Rows→α) (i:Int) (n7:Rows):α:=
 bif decide (i<len a) then
  bif Ec (Ec (Ec (Ec true (idx i a)) (tD (nE.nd (nth a (Int.toNat i)) 0))) (idx i n7)) ((inl (Int.toNat i) n7) && true) then
   oL (nS (i+1)) (List.set n7 (Int.toNat i) (bQ (nth n7 (Int.toNat i)) 0 (nE.enc (oB (nE.nd (nth a (Int.toNat i)) 0)))))
  else kd
 else k_ n7
def Ob (k_:Rows→α) (N:Nat) (a:Rows) (m_:Nat):Int→Rows→α:=
 Nat.rec (motive:=fun _=>Int→Rows→α) (fun _ _=>kd) (fun _ oL=>Oc kd k_ a oL) m_
theorem WT (k_:Rows→α) (N:Nat) (a:Rows) (m_:Nat):Ob kd k_ N a (m_+1)=Oc kd k_ a (Ob kd k_ N a m_):=rfl
def Vf (k_:Rows→α) (l0:Int→Rows→α) (a:Rows):α:=
 bif Ec true (wW 48 (len a) (len a)) then
  l0 0 (List.replicate (Int.toNat (len a)) (([.int 0,.int 0,.int 0,.sl []]):List DC))
 else kd
def ndP (k_:Rows→α) (N:Nat) (a:Rows):α:=Vf kd k_ (Ob kd k_ N a N) a
def uz (a:Rows):Bool:=sm a && a.all fun r=>tD (nE.nd r 0)
theorem nq6 (k_:Rows→α) (a:Rows) (qV:G3 (.sl [.i,.i,.i,.sl [.i]]) (.sl a)) (aJ:uz a=true):∃N,ndP kd k_ N a=k_ (oB a):=by
 obtain⟨hl,hw⟩:=oS qV
 simp only[uz,Bool.and_eq_true,List.all_eq_true] at aJ
 obtain⟨Jc,hel⟩:=aJ
 refine⟨a.length+1, ?_⟩
 unfold ndP Vf
 have e0:Int.toNat (len a)=a.length:=by simp [len]
 simp only[nt5 Jc (show 48≤8388608 by omega),ng,cond_true,e0]
 refine npW a (Ob kd k_ (a.length+1) a) k_ [.int 0,.int 0,.int 0,.sl []] (fun o r=>bQ o 0 (nE.enc (oB (nE.nd r 0)))) ?_ ?_ ?_
 ·intro n i out h ho
  have he2:=hel (nth a i) (tn h)
  rw[WT]
  simp only[Oc,pL h,n9 h,ntS ho h,sF (show i<out.length by omega),oE h hl,Int.toNat_natCast,Bool.and_true,ng,nv,cond_true,he2]
  try rfl
 ·intro n out ho
  rw[WT]
  simp only[Oc,nX,cond_false]
 ·intro r hr
  refine (sk ?_).trans ?_
  ·rfl
  ·exact nE.eta (hw r hr)
def yC (k_:Int→α) (a:Rows) (oL:Int→Int→α) (uK i:Int):α:=
 let z0:Int:=nS (uK - (len (rS (nth a (Int.toNat i)) 0)))
 bif decide (i<len a) then
  bif Ec true (idx i a) then
   bif decide (z0<0) then k_ (-1)
   else oL z0 (nS (i+1))
  else kd
 else k_ uK
def yB (k_:Int→α) (N:Nat) (a:Rows) (m_:Nat):Int→Int→α:=
 Nat.rec (motive:=fun _=>Int→Int→α) (fun _ _=>kd) (fun _ oL=>yC kd k_ a oL) m_
theorem Tn (k_:Int→α) (N:Nat) (a:Rows) (m_:Nat):yB kd k_ N a (m_+1)=yC kd k_ a (yB kd k_ N a m_):=rfl
def QX {α:Type} (kd:α) (k_:Int→α) (l0:Int→Int→α) (a:Rows) (left:Int):α:=
 bif decide (nS (left - (len a))<0) then k_ (-1)
 else l0 (nS (left - (len a))) 0
def Zv (k_:Int→α) (N:Nat) (a:Rows) (left:Int):α:=QX kd k_ (yB kd k_ N a N) a left
def rP (a:Rows) (left:Int):Int:=Xe (fun r l=>nS (l - len (rS r 0))) a left
theorem nlU (k_:Int→α) (a:Rows) (left:Int) (qV:G3 (.sl [.str]) (.sl a)):∃N,Zv kd k_ N a left=k_ (rP a left):=by
 obtain⟨hl,_⟩:=oS qV
 refine⟨a.length+1, ?_⟩
 unfold Zv QX rP Xe
 refine J5 rfl ?_
 refine (TH a (fun n i l=>yB kd k_ (a.length+1) a n l i) (fun _ r c l=>bif decide ((fun r l=>nS (l - len (rS r 0))) r l<0) then k_ (-1) else c ((fun r l=>nS (l - len (rS r 0))) r l)) k_ ?_ ?_ _).trans (nts (fun r l=>nS (l - len (rS r 0))) k_ a 0 _)
 ·intro n i l h
  try dsimp only
  rw[Tn]
  simp only[yC,pL h,n9 h,oE h hl,Int.toNat_natCast,ng,nv,cond_true]
 ·intro n l
  try dsimp only
  rw[Tn]
  simp only[yC,nX,cond_false]
def Sy {α:Type} (k_:Int→α) (a:na) (left:Int):α:=
 bif decide (rP a.nK left<0) then k_ (-1)
 else k_ (rP a.nK left)
def pJ (a:na) (left:Int):Int:=Sy id a left
theorem nor {α:Type} (k_:Int→α) (a:na) (left:Int):Sy k_ a left=k_ (pJ a left):=by
 exact J5 rfl rfl
def RB {α:Type} (k_:Int→α) (a:nE) (left:Int):α:=
 bif decide (pF a.pN left<0) then k_ (-1)
 else k_ (pF a.pN left)
def rD (a:nE) (left:Int):Int:=RB id a left
theorem nsO {α:Type} (k_:Int→α) (a:nE) (left:Int):RB k_ a left=k_ (rD a left):=by
 exact J5 rfl rfl
def zJ {α:Type} (k_:Int→α) (a:nn) (left:Int):α:=
 let z0:Int:=t9 a.ny (rD a.nP left)
 bif decide (rD a.nP left<0) then k_ (-1)
 else bif decide (z0<0) then k_ (-1)
 else k_ z0
def qc (a:nn) (left:Int):Int:=zJ id a left
theorem nlV {α:Type} (k_:Int→α) (a:nn) (left:Int):zJ k_ a left=k_ (qc a left):=by
 exact J5 rfl (J5 rfl rfl)
def QT {α:Type} (k_:Int→α) (a:nk) (left:Int):α:=
 bif decide (v7 a.qU left<0) then k_ (-1)
 else k_ (v7 a.qU left)
def sY (a:nk) (left:Int):Int:=QT id a left
theorem nlL {α:Type} (k_:Int→α) (a:nk) (left:Int):QT k_ a left=k_ (sY a left):=by
 exact J5 rfl rfl
def xn (k_:Int→α) (a:Rows) (oL:Int→Int→α) (uK i:Int):α:=
 let z0:Int:=sY (nk.nd (nth a (Int.toNat i)) 0) uK
 bif decide (i<len a) then
  bif Ec true (idx i a) then
   bif decide (z0<0) then k_ (-1)
   else oL z0 (nS (i+1))
  else kd
 else k_ uK
def xm (k_:Int→α) (N:Nat) (a:Rows) (m_:Nat):Int→Int→α:=
 Nat.rec (motive:=fun _=>Int→Int→α) (fun _ _=>kd) (fun _ oL=>xn kd k_ a oL) m_
theorem RZ (k_:Int→α) (N:Nat) (a:Rows) (m_:Nat):xm kd k_ N a (m_+1)=xn kd k_ a (xm kd k_ N a m_):=rfl
def PO {α:Type} (kd:α) (k_:Int→α) (l0:Int→Int→α) (a:Rows) (left:Int):α:=
 bif decide (nS (left - (len a))<0) then k_ (-1)
 else l0 (nS (left - (len a))) 0
def WK (k_:Int→α) (N:Nat) (a:Rows) (left:Int):α:=PO kd k_ (xm kd k_ N a N) a left
def qG (a:Rows) (left:Int):Int:=Xe (fun r l=>sY (nk.nd r 0) l) a left
theorem njy (k_:Int→α) (a:Rows) (left:Int) (qV:G3 (.sl [.i,.i,.i,.i,.i,.i,.i,.i,.i,.i,.i,.i,.i,.i,.i,.i,.i,.i,.i,.i,.i,.i,.i,.i,.i,.str,.i,.i,.bool,.i]) (.sl a)):∃N,WK kd k_ N a left=k_ (qG a left):=by
 obtain⟨hl,_⟩:=oS qV
 refine⟨a.length+1, ?_⟩
 unfold WK PO qG Xe
 refine J5 rfl ?_
 refine (TH a (fun n i l=>xm kd k_ (a.length+1) a n l i) (fun _ r c l=>bif decide ((fun r l=>sY (nk.nd r 0) l) r l<0) then k_ (-1) else c ((fun r l=>sY (nk.nd r 0) l) r l)) k_ ?_ ?_ _).trans (nts (fun r l=>sY (nk.nd r 0) l) k_ a 0 _)
 ·intro n i l h
  try dsimp only
  rw[RZ]
  simp only[xn,pL h,n9 h,oE h hl,Int.toNat_natCast,ng,nv,cond_true]
 ·intro n l
  try dsimp only
  rw[RZ]
  simp only[xn,nX,cond_false]
def N7 (k_:Int→α) (a:Rows) (oL:Int→Int→α) (uK i:Int):α:=
 let z0:Int:=rD (nE.nd (nth a (Int.toNat i)) 0) uK
 bif decide (i<len a) then
  bif Ec true (idx i a) then
   bif decide (z0<0) then k_ (-1)
   else oL z0 (nS (i+1))
  else kd
 else k_ uK
def N6 (k_:Int→α) (N:Nat) (a:Rows) (m_:Nat):Int→Int→α:=
 Nat.rec (motive:=fun _=>Int→Int→α) (fun _ _=>kd) (fun _ oL=>N7 kd k_ a oL) m_
theorem WG (k_:Int→α) (N:Nat) (a:Rows) (m_:Nat):N6 kd k_ N a (m_+1)=N7 kd k_ a (N6 kd k_ N a m_):=rfl
def U8 {α:Type} (kd:α) (k_:Int→α) (l0:Int→Int→α) (a:Rows) (left:Int):α:=
 bif decide (nS (left - (len a))<0) then k_ (-1)
 else l0 (nS (left - (len a))) 0
def ndC (k_:Int→α) (N:Nat) (a:Rows) (left:Int):α:=U8 kd k_ (N6 kd k_ N a N) a left
def rG (a:Rows) (left:Int):Int:=Xe (fun r l=>rD (nE.nd r 0) l) a left
theorem nqR (k_:Int→α) (a:Rows) (left:Int) (qV:G3 (.sl [.i,.i,.i,.sl [.i]]) (.sl a)):∃N,ndC kd k_ N a left=k_ (rG a left):=by
 obtain⟨hl,_⟩:=oS qV
 refine⟨a.length+1, ?_⟩
 unfold ndC U8 rG Xe
 refine J5 rfl ?_
 refine (TH a (fun n i l=>N6 kd k_ (a.length+1) a n l i) (fun _ r c l=>bif decide ((fun r l=>rD (nE.nd r 0) l) r l<0) then k_ (-1) else c ((fun r l=>rD (nE.nd r 0) l) r l)) k_ ?_ ?_ _).trans (nts (fun r l=>rD (nE.nd r 0) l) k_ a 0 _)
 ·intro n i l h
  try dsimp only
  rw[WG]
  simp only[N7,pL h,n9 h,oE h hl,Int.toNat_natCast,ng,nv,cond_true]
 ·intro n l
  try dsimp only
  rw[WG]
  simp only[N7,nX,cond_false]
def Sx {α:Type} (k_:Int→α) (a:nB) (left:Int):α:=
 bif decide (pF a.pd left<0) then k_ (-1)
 else k_ (pF a.pd left)
def sP (a:nB) (left:Int):Int:=Sx id a left
theorem nop {α:Type} (k_:Int→α) (a:nB) (left:Int):Sx k_ a left=k_ (sP a left):=by
 exact J5 rfl rfl
def SB {α:Type} (k_:Int→α) (a:oy) (left:Int):α:=
 let z0:Int:=nS (left - (len a.Data))
 bif decide (z0<0) then k_ (-1)
 else k_ z0
def tv (a:oy) (left:Int):Int:=SB id a left
theorem noC {α:Type} (k_:Int→α) (a:oy) (left:Int):SB k_ a left=k_ (tv a left):=by
 exact J5 rfl rfl
def yA (k_:Int→α) (a:Rows) (oL:Int→Int→α) (uK i:Int):α:=
 let z0:Int:=tv (oy.nd (nth a (Int.toNat i)) 0) uK
 bif decide (i<len a) then
  bif Ec true (idx i a) then
   bif decide (z0<0) then k_ (-1)
   else oL z0 (nS (i+1))
  else kd
 else k_ uK
def yz (k_:Int→α) (N:Nat) (a:Rows) (m_:Nat):Int→Int→α:=
 Nat.rec (motive:=fun _=>Int→Int→α) (fun _ _=>kd) (fun _ oL=>yA kd k_ a oL) m_
theorem Tm (k_:Int→α) (N:Nat) (a:Rows) (m_:Nat):yz kd k_ N a (m_+1)=yA kd k_ a (yz kd k_ N a m_):=rfl
def QW {α:Type} (kd:α) (k_:Int→α) (l0:Int→Int→α) (a:Rows) (left:Int):α:=
 bif decide (nS (left - (len a))<0) then k_ (-1)
 else l0 (nS (left - (len a))) 0
def Zs (k_:Int→α) (N:Nat) (a:Rows) (left:Int):α:=QW kd k_ (yz kd k_ N a N) a left
def sZ (a:Rows) (left:Int):Int:=Xe (fun r l=>tv (oy.nd r 0) l) a left
theorem nlQ (k_:Int→α) (a:Rows) (left:Int) (qV:G3 (.sl [.i,.i,.i,.i,.i,.i,.str,.bool]) (.sl a)):∃N,Zs kd k_ N a left=k_ (sZ a left):=by
 obtain⟨hl,_⟩:=oS qV
 refine⟨a.length+1, ?_⟩
 unfold Zs QW sZ Xe
 refine J5 rfl ?_
 refine (TH a (fun n i l=>yz kd k_ (a.length+1) a n l i) (fun _ r c l=>bif decide ((fun r l=>tv (oy.nd r 0) l) r l<0) then k_ (-1) else c ((fun r l=>tv (oy.nd r 0) l) r l)) k_ ?_ ?_ _).trans (nts (fun r l=>tv (oy.nd r 0) l) k_ a 0 _)
 ·intro n i l h
  try dsimp only
  rw[Tm]
  simp only[yA,pL h,n9 h,oE h hl,Int.toNat_natCast,ng,nv,cond_true]
 ·intro n l
  try dsimp only
  rw[Tm]
  simp only[yA,nX,cond_false]
def RA {α:Type} (k_:Int→α) (a:nt) (left:Int):α:=
 let z0:Int:=pF a.Maps (pJ a.nZ left)
 let z1:Int:=qc a.Tx z0
 let z2:Int:=qG a.Rx z1
 let z3:Int:=rG a.n_ z2
 let z4:Int:=pF a.nM z3
 let z5:Int:=pF a.ox z4
 let z6:Int:=sP a.Filter z5
 let z7:Int:=rO a.nh z6
 let z8:Int:=sZ a.oF z7
 let z9:Int:=rP a.sU z8
 let z10:Int:=pF a.nY z9
 let z11:Int:=pF a.oq z10
 bif decide (pJ a.nZ left<0) then k_ (-1)
 else bif decide (z0<0) then k_ (-1)
 else bif decide (z1<0) then k_ (-1)
 else bif decide (z2<0) then k_ (-1)
 else bif decide (z3<0) then k_ (-1)
 else bif decide (z4<0) then k_ (-1)
 else bif decide (z5<0) then k_ (-1)
 else bif decide (z6<0) then k_ (-1)
 else bif decide (z7<0) then k_ (-1)
 else bif decide (z8<0) then k_ (-1)
 else bif decide (z9<0) then k_ (-1)
 else bif decide (z10<0) then k_ (-1)
 else bif decide (z11<0) then k_ (-1)
 else k_ z11
def vZ (a:nt) (left:Int):Int:=RA id a left
theorem nsM {α:Type} (k_:Int→α) (a:nt) (left:Int):RA k_ a left=k_ (vZ a left):=by
 exact J5 rfl (J5 rfl (J5 rfl (J5 rfl (J5 rfl (J5 rfl (J5 rfl (J5 rfl (J5 rfl (J5 rfl (J5 rfl (J5 rfl (J5 rfl rfl))))))))))))
def Oa (k_:na→α) (a:na):α:=
 bif Ec true (sm a.nK) then
  k_ (⟨oB a.nK⟩:na)
 else kd
def uX (a:na):Bool:=Oa false (fun _=>true) a
theorem noI (k_:na→α) (a:na) (aJ:uX a=true):Oa kd k_ a=k_ (oB a):=by
 exact sn (fun _=>rfl) aJ
def noW {α:Type} (k_:oy→α) (a:oy):α:=
 k_ (⟨oB a.TK,a.Next,a.Data,a.nwv⟩:oy)
theorem noU {α:Type} (k_:oy→α) (a:oy):noW k_ a=k_ (oB a):=by
 rfl
def neP:List DC→List DC:=fun r=>oy.enc (oB (oy.nd r 0))
theorem nl7 (k_:Rows→α) (a:Rows) (qV:G3 (.sl [.i,.i,.i,.i,.i,.i,.str,.bool]) (.sl a)) (aJ:sm a=true):∃N,Z9 72 [.int 0,.int 0,.int 0,.int 0,.int 0,.int 0,.str [],.bool false] neP kd k_ N a=k_ (oB a):=by
 obtain⟨hl,hw⟩:=oS qV
 exact nuk 72 (by omega) [.int 0,.int 0,.int 0,.int 0,.int 0,.int 0,.str [],.bool false] neP kd k_ a hl aJ (fun r hr=>(sk rfl).trans (by exact oy.eta (hw r hr)))
def nsY {α:Type} (k_:oc→α) (a:oc):α:=
 k_ a
theorem nsX {α:Type} (k_:oc→α) (a:oc):nsY k_ a=k_ (oB a):=by
 rfl
def XM {α:Type} (k_:nf→α) (a:nf):α:=
 k_ a
theorem XK {α:Type} (k_:nf→α) (a:nf):XM k_ a=k_ (oB a):=by
 rfl
def nl6 {α:Type} (k_:nF→α) (a:nF):α:=
 k_ a
theorem nl4 {α:Type} (k_:nF→α) (a:nF):nl6 k_ a=k_ (oB a):=by
 rfl
def noM {α:Type} (k_:nQ→α) (a:nQ):α:=
 k_ (⟨a.O2,a.O5,a.vt,a.Tos,a.Id,a.Ttl,a.rk,a.rK,oB a.Ow⟩:nQ)
theorem noK {α:Type} (k_:nQ→α) (a:nQ):noM k_ a=k_ (oB a):=by
 rfl
def nrj {α:Type} (k_:po→α) (a:po):α:=
 k_ (⟨oB a.om,a.nI,a.Count⟩:po)
theorem nrh {α:Type} (k_:po→α) (a:po):nrj k_ a=k_ (oB a):=by
 rfl
def nl3 {α:Type} (k_:nk→α) (a:nk):α:=
 k_ (⟨oB a.Ring,oB a.Device,oB a.Driver,oB a.qU,a.uJ,a.yb⟩:nk)
theorem nl1 {α:Type} (k_:nk→α) (a:nk):nl3 k_ a=k_ (oB a):=by
 rfl
def nar:List DC→List DC:=fun r=>nk.enc (oB (nk.nd r 0))
theorem njP (k_:Rows→α) (a:Rows) (qV:G3 (.sl [.i,.i,.i,.i,.i,.i,.i,.i,.i,.i,.i,.i,.i,.i,.i,.i,.i,.i,.i,.i,.i,.i,.i,.i,.i,.str,.i,.i,.bool,.i]) (.sl a)) (aJ:sm a=true):∃N,Z9 248 [.int 0,.int 0,.int 0,.int 0,.int 0,.int 0,.int 0,.int 0,.int 0,.int 0,.int 0,.int 0,.int 0,.int 0,.int 0,.int 0,.int 0,.int 0,.int 0,.int 0,.int 0,.int 0,.int 0,.int 0,.int 0,.str [],.int 0,.int 0,.bool false,.int 0] nar kd k_ N a=k_ (oB a):=by
 obtain⟨hl,hw⟩:=oS qV
 exact nuk 248 (by omega) [.int 0,.int 0,.int 0,.int 0,.int 0,.int 0,.int 0,.int 0,.int 0,.int 0,.int 0,.int 0,.int 0,.int 0,.int 0,.int 0,.int 0,.int 0,.int 0,.int 0,.int 0,.int 0,.int 0,.int 0,.int 0,.str [],.int 0,.int 0,.bool false,.int 0] nar kd k_ a hl aJ (fun r hr=>(sk rfl).trans (by exact nk.eta (hw r hr)))
def ngh {α:Type} (k_:Bool→α) (a b:qj):α:=
 bif a.Priority != b.Priority then k_ false
 else bif a.Kind != b.Kind then k_ false
 else bif a.rk != b.rk then k_ false
 else bif a.npF != b.npF then k_ false
 else bif a.XW != b.XW then k_ false
 else bif a.ncF != b.ncF then k_ false
 else bif a.vt != b.vt then k_ false
 else bif a.Action != b.Action then k_ false
 else bif a.Queue != b.Queue then k_ false
 else k_ true
theorem nsG {α:Type} (k_:Bool→α) (a b:qj) (aJ:same a b=true):ngh k_ a b=k_ (pK a b):=by
 obtain rfl:=sA aJ
 simp only[ngh,qu,pK,bne_self_eq_false,beq_self_eq_true,Bool.not_true,cond_false,cond_true,ng,nv]
def nf7 {α:Type} (k_:Bool→α) (a b:nO):α:=
 bif a.Kind != b.Kind then k_ false
 else bif a.rk != b.rk then k_ false
 else bif a.rK != b.rK then k_ false
 else bif a.ph != b.ph then k_ false
 else bif a.pg != b.pg then k_ false
 else k_ true
theorem nsA {α:Type} (k_:Bool→α) (a b:nO) (aJ:same a b=true):nf7 k_ a b=k_ (pK a b):=by
 obtain rfl:=sA aJ
 simp only[nf7,qu,pK,bne_self_eq_false,beq_self_eq_true,Bool.not_true,cond_false,cond_true,ng,nv]
def ngl (k_:Bool→α) (a b:ry):α:=
 bif a.State != b.State then k_ false
 else bif Ec true (same a.TK b.TK) then
   bif !(pK a.TK b.TK) then k_ false
   else bif a.Queue != b.Queue then k_ false
   else k_ true
  else kd
theorem nsK (k_:Bool→α) (a b:ry) (aJ:same a b=true):ngl kd k_ a b=k_ (pK a b):=by
 obtain rfl:=sA aJ
 simp only[ngl,qu,pK,bne_self_eq_false,beq_self_eq_true,Bool.not_true,cond_false,cond_true,ng,nv]
theorem nqK (k_:Bool→α) (a b:Rows) (qV:G3 (.sl [.i,.i,.i,.i,.i,.i,.i]) (.sl a)) (aJ:same a b=true):∃N,ncC (fun r=>ry.nd r 0) kd k_ N a b=k_ (pK a b):=by
 exact nux (fun r=>ry.nd r 0) kd k_ a b (oS qV).1 aJ
def UB (k_:Bool→α) (a b:ni):α:=
 bif Ec true (same a.nC b.nC) then
  bif !(pK a.nC b.nC) then k_ false
  else k_ true
 else kd
theorem nhe (k_:Bool→α) (a b:ni) (aJ:same a b=true):UB kd k_ a b=k_ (pK a b):=by
 obtain rfl:=sA aJ
 simp only[UB,qu,pK,bne_self_eq_false,beq_self_eq_true,Bool.not_true,cond_false,cond_true,ng,nv]
def nbu (k_:Bool→α) (a b:nD):α:=
 bif !(a.Key==b.Key) then k_ false
 else bif Ec true (same a.Table b.Table) then
   bif !(pK a.Table b.Table) then k_ false
   else k_ true
  else kd
theorem nn4 (k_:Bool→α) (a b:nD) (aJ:same a b=true):nbu kd k_ a b=k_ (pK a b):=by
 obtain rfl:=sA aJ
 simp only[nbu,qu,pK,bne_self_eq_false,beq_self_eq_true,Bool.not_true,cond_false,cond_true,ng,nv]
def nbw (k_:Bool→α) (a b:oy):α:=
 bif Ec true (same a.TK b.TK) then
  bif !(pK a.TK b.TK) then k_ false
  else bif a.Next != b.Next then k_ false
  else bif !(a.Data==b.Data) then k_ false
  else bif !(a.nwv==b.nwv) then k_ false
  else k_ true
 else kd
theorem nn6 (k_:Bool→α) (a b:oy) (aJ:same a b=true):nbw kd k_ a b=k_ (pK a b):=by
 obtain rfl:=sA aJ
 simp only[nbw,qu,pK,bne_self_eq_false,beq_self_eq_true,Bool.not_true,cond_false,cond_true,ng,nv]
theorem niV (k_:Bool→α) (a b:Rows) (qV:G3 (.sl [.i,.i,.i,.bool]) (.sl a)) (aJ:same a b=true):∃N,ncC (fun r=>pn.nd r 0) kd k_ N a b=k_ (pK a b):=by
 exact nux (fun r=>pn.nd r 0) kd k_ a b (oS qV).1 aJ
theorem niY (k_:Bool→α) (a b:Rows) (qV:G3 (.sl [.i,.i,.i,.i,.i,.i,.i,.i,.i,.i,.i,.i,.i,.i,.i,.i,.i,.i,.i,.i,.i,.i,.i,.i,.i,.str,.i,.i,.bool,.i]) (.sl a)) (aJ:same a b=true):∃N,ncC (fun r=>nk.nd r 0) kd k_ N a b=k_ (pK a b):=by
 exact nux (fun r=>nk.nd r 0) kd k_ a b (oS qV).1 aJ
def nby {α:Type} (k_:Bool→α) (a b:nA):α:=
 bif a.yR != b.yR then k_ false
 else bif a.O3 != b.O3 then k_ false
 else bif a.Count != b.Count then k_ false
 else bif a.Time != b.Time then k_ false
 else bif !(a.Qr==b.Qr) then k_ false
 else bif !(a.Qs==b.Qs) then k_ false
 else k_ true
theorem nn8 {α:Type} (k_:Bool→α) (a b:nA) (aJ:same a b=true):nby k_ a b=k_ (pK a b):=by
 obtain rfl:=sA aJ
 simp only[nby,qu,pK,bne_self_eq_false,beq_self_eq_true,Bool.not_true,cond_false,cond_true,ng,nv]
theorem nlf (k_:Bool→α) (a b:Rows) (qV:G3 (.sl [.i,.i,.i,.i,.bool,.bool]) (.sl a)) (aJ:same a b=true):∃N,ncC (fun r=>nA.nd r 0) kd k_ N a b=k_ (pK a b):=by
 exact nux (fun r=>nA.nd r 0) kd k_ a b (oS qV).1 aJ
def N5 (k_:Bool→α) (a b:Rows) (oL:Int→α) (i:Int):α:=
 bif decide (i<len a) then
  bif Ec (Ec true (idx i a)) (idx i b) then
   bif !((rB (nth a (Int.toNat i)) 0)==(rB (nth b (Int.toNat i)) 0)) then k_ false
   else oL (nS (i+1))
  else kd
 else k_ true
def N4 (k_:Bool→α) (N:Nat) (a b:Rows) (m_:Nat):Int→α:=
 Nat.rec (motive:=fun _=>Int→α) (fun _=>kd) (fun _ oL=>N5 kd k_ a b oL) m_
theorem Wn (k_:Bool→α) (N:Nat) (a b:Rows) (m_:Nat):N4 kd k_ N a b (m_+1)=N5 kd k_ a b (N4 kd k_ N a b m_):=rfl
def Uz {α:Type} (kd:α) (k_:Bool→α) (l0:Int→α) (a b:Rows):α:=
 bif (len a) != (len b) then k_ false
 else l0 0
def nc_ (k_:Bool→α) (N:Nat) (a b:Rows):α:=Uz kd k_ (N4 kd k_ N a b N) a b
theorem nqy (k_:Bool→α) (a b:Rows) (qV:G3 (.sl [.bool]) (.sl a)) (aJ:same a b=true):∃N,nc_ kd k_ N a b=k_ (pK a b):=by
 obtain rfl:=sA aJ
 obtain⟨hl,_⟩:=oS qV
 refine⟨a.length+1, ?_⟩
 unfold nc_ Uz
 simp only[bne_self_eq_false,cond_false]
 refine (sJ a (N4 kd k_ (a.length+1) a a) (fun _ _ c=>c) (k_ true) ?_ ?_).trans (npH _ _ _)
 ·intro n i h
  rw[Wn]
  simp only[N5,pL h,n9 h,oE h hl,Int.toNat_natCast,ng,nv,cond_true,cond_false,bne_self_eq_false,beq_self_eq_true,Bool.not_true,qu,pK]
 ·intro n
  rw[Wn]
  simp only[N5,nX,cond_false]
def nbo (k_:Bool→α) (a b:nB):α:=
 bif a.Qj != b.Qj then k_ false
 else bif !(a.nU==b.nU) then k_ false
 else bif Ec true (same a.pd b.pd) then
   bif !(pK a.pd b.pd) then k_ false
   else k_ true
  else kd
theorem nnU (k_:Bool→α) (a b:nB) (aJ:same a b=true):nbo kd k_ a b=k_ (pK a b):=by
 obtain rfl:=sA aJ
 simp only[nbo,qu,pK,bne_self_eq_false,beq_self_eq_true,Bool.not_true,cond_false,cond_true,ng,nv]
theorem nqE (k_:Bool→α) (a b:Rows) (qV:G3 (.sl [.i,.i,.i,.i,.i,.i,.i,.i,.i]) (.sl a)) (aJ:same a b=true):∃N,ncC (fun r=>qj.nd r 0) kd k_ N a b=k_ (pK a b):=by
 exact nux (fun r=>qj.nd r 0) kd k_ a b (oS qV).1 aJ
def Wx (k_:Bool→α) (a b:nm):α:=
 bif Ec true (same a.ot b.ot) then
  bif !(pK a.ot b.ot) then k_ false
  else bif Ec true (same a.Table b.Table) then
    bif !(pK a.Table b.Table) then k_ false
    else bif Ec true (same a.nL b.nL) then
      bif !(pK a.nL b.nL) then k_ false
      else k_ true
     else kd
   else kd
 else kd
theorem ni1 (k_:Bool→α) (a b:nm) (aJ:same a b=true):Wx kd k_ a b=k_ (pK a b):=by
 obtain rfl:=sA aJ
 simp only[Wx,qu,pK,bne_self_eq_false,beq_self_eq_true,Bool.not_true,cond_false,cond_true,ng,nv]
theorem nk_ (k_:Bool→α) (a b:Rows) (qV:G3 (.sl [.i,.i,.i,.i,.i,.i,.str,.bool]) (.sl a)) (aJ:same a b=true):∃N,ncC (fun r=>oy.nd r 0) kd k_ N a b=k_ (pK a b):=by
 exact nux (fun r=>oy.nd r 0) kd k_ a b (oS qV).1 aJ
def Wp {α:Type} (k_:Bool→α) (a b:nV):α:=
 bif a.Frames != b.Frames then k_ false
 else bif a.SN != b.SN then k_ false
 else bif a.oY != b.oY then k_ false
 else bif a.pP != b.pP then k_ false
 else bif a.rW != b.rW then k_ false
 else k_ true
theorem niT {α:Type} (k_:Bool→α) (a b:nV) (aJ:same a b=true):Wp k_ a b=k_ (pK a b):=by
 obtain rfl:=sA aJ
 simp only[Wp,qu,pK,bne_self_eq_false,beq_self_eq_true,Bool.not_true,cond_false,cond_true,ng,nv]
def nf9 (k_:Bool→α) (a b:nt):α:=
 bif Ec true (same a.nZ b.nZ) then
  bif !(pK a.nZ b.nZ) then k_ false
  else bif Ec true (same a.Maps b.Maps) then
    bif !(pK a.Maps b.Maps) then k_ false
    else bif Ec true (same a.Tx b.Tx) then
      bif !(pK a.Tx b.Tx) then k_ false
      else bif Ec true (same a.Rx b.Rx) then
        bif !(pK a.Rx b.Rx) then k_ false
        else bif Ec true (same a.n_ b.n_) then
          bif !(pK a.n_ b.n_) then k_ false
          else bif Ec true (same a.nM b.nM) then
            bif !(pK a.nM b.nM) then k_ false
            else bif Ec true (same a.ox b.ox) then
              bif !(pK a.ox b.ox) then k_ false
              else bif Ec true (same a.Filter b.Filter) then
                bif !(pK a.Filter b.Filter) then k_ false
                else bif Ec true (same a.nh b.nh) then
                  bif !(pK a.nh b.nh) then k_ false
                  else bif Ec true (same a.oF b.oF) then
                    bif !(pK a.oF b.oF) then k_ false
                    else bif !(a.pj==b.pj) then k_ false
                    else bif Ec true (same a.sU b.sU) then
                      bif !(pK a.sU b.sU) then k_ false
                      else bif Ec true (same a.nY b.nY) then
                        bif !(pK a.nY b.nY) then k_ false
                        else bif Ec true (same a.oq b.oq) then
                          bif !(pK a.oq b.oq) then k_ false
                          else bif Ec true (same a.Counters b.Counters) then
                            bif !(pK a.Counters b.Counters) then k_ false
                            else k_ true
                           else kd
                         else kd
                       else kd
                     else kd
                   else kd
                 else kd
               else kd
             else kd
           else kd
         else kd
       else kd
     else kd
   else kd
 else kd
theorem nsB (k_:Bool→α) (a b:nt) (aJ:same a b=true):nf9 kd k_ a b=k_ (pK a b):=by
 obtain rfl:=sA aJ
 simp only[nf9,qu,pK,bne_self_eq_false,beq_self_eq_true,Bool.not_true,cond_false,cond_true,ng,nv]
def ns1 {α:Type} (k_:qj→α) (a:qj):α:=
 k_ a
theorem nsZ {α:Type} (k_:qj→α) (a:qj):ns1 k_ a=k_ (oB a):=by
 rfl
def nmP:List DC→List DC:=fun r=>qj.enc (oB (qj.nd r 0))
theorem nq9 (k_:Rows→α) (a:Rows) (qV:G3 (.sl [.i,.i,.i,.i,.i,.i,.i,.i,.i]) (.sl a)) (aJ:sm a=true):∃N,Z9 72 [.int 0,.int 0,.int 0,.int 0,.int 0,.int 0,.int 0,.int 0,.int 0] nmP kd k_ N a=k_ (oB a):=by
 obtain⟨hl,hw⟩:=oS qV
 exact nuk 72 (by omega) [.int 0,.int 0,.int 0,.int 0,.int 0,.int 0,.int 0,.int 0,.int 0] nmP kd k_ a hl aJ (fun r hr=>(sk rfl).trans (by exact qj.eta (hw r hr)))
def nmN:List DC→List DC:=fun r=>[.bool (rB r 0)]
theorem nq3 (k_:Rows→α) (a:Rows) (qV:G3 (.sl [.bool]) (.sl a)) (aJ:sm a=true):∃N,Z9 1 [.bool false] nmN kd k_ N a=k_ (oB a):=by
 obtain⟨hl,hw⟩:=oS qV
 exact nuk 1 (by omega) [.bool false] nmN kd k_ a hl aJ (fun r hr=>(sk rfl).trans (by exact nwk (hw r hr)))
def noZ {α:Type} (k_:nA→α) (a:nA):α:=
 k_ a
theorem noX {α:Type} (k_:nA→α) (a:nA):noZ k_ a=k_ (oB a):=by
 rfl
def neR:List DC→List DC:=fun r=>nA.enc (oB (nA.nd r 0))
theorem nmc (k_:Rows→α) (a:Rows) (qV:G3 (.sl [.i,.i,.i,.i,.bool,.bool]) (.sl a)) (aJ:sm a=true):∃N,Z9 40 [.int 0,.int 0,.int 0,.int 0,.bool false,.bool false] neR kd k_ N a=k_ (oB a):=by
 obtain⟨hl,hw⟩:=oS qV
 exact nuk 40 (by omega) [.int 0,.int 0,.int 0,.int 0,.bool false,.bool false] neR kd k_ a hl aJ (fun r hr=>(sk rfl).trans (by exact nA.eta (hw r hr)))
def Oe (k_:Rows→α) (a:Rows) (oL:Int→Rows→α) (i:Int) (n7:Rows):α:=
 bif decide (i<len a) then
  bif Ec (Ec (Ec (Ec true (idx i a)) (ui (pG.nd (nth a (Int.toNat i)) 0))) (idx i n7)) ((inl (Int.toNat i) n7) && true) then
   oL (nS (i+1)) (List.set n7 (Int.toNat i) (bQ (nth n7 (Int.toNat i)) 0 (pG.enc (oB (pG.nd (nth a (Int.toNat i)) 0)))))
  else kd
 else k_ n7
def Od (k_:Rows→α) (N:Nat) (a:Rows) (m_:Nat):Int→Rows→α:=
 Nat.rec (motive:=fun _=>Int→Rows→α) (fun _ _=>kd) (fun _ oL=>Oe kd k_ a oL) m_
theorem WX (k_:Rows→α) (N:Nat) (a:Rows) (m_:Nat):Od kd k_ N a (m_+1)=Oe kd k_ a (Od kd k_ N a m_):=rfl
def Vi (k_:Rows→α) (l0:Int→Rows→α) (a:Rows):α:=
 bif Ec true (wW 40 (len a) (len a)) then
  l0 0 (List.replicate (Int.toNat (len a)) (([.int 0,.int 0,.sl []]):List DC))
 else kd
def ndW (k_:Rows→α) (N:Nat) (a:Rows):α:=Vi kd k_ (Od kd k_ N a N) a
def tS (a:Rows):Bool:=sm a && a.all fun r=>ui (pG.nd r 0)
theorem nrb (k_:Rows→α) (a:Rows) (qV:G3 (.sl [.i,.i,.sl [.i]]) (.sl a)) (aJ:tS a=true):∃N,ndW kd k_ N a=k_ (oB a):=by
 obtain⟨hl,hw⟩:=oS qV
 simp only[tS,Bool.and_eq_true,List.all_eq_true] at aJ
 obtain⟨Jc,hel⟩:=aJ
 refine⟨a.length+1, ?_⟩
 unfold ndW Vi
 have e0:Int.toNat (len a)=a.length:=by simp [len]
 simp only[nt5 Jc (show 40≤8388608 by omega),ng,cond_true,e0]
 refine npW a (Od kd k_ (a.length+1) a) k_ [.int 0,.int 0,.sl []] (fun o r=>bQ o 0 (pG.enc (oB (pG.nd r 0)))) ?_ ?_ ?_
 ·intro n i out h ho
  have he2:=hel (nth a i) (tn h)
  rw[WX]
  simp only[Oe,pL h,n9 h,ntS ho h,sF (show i<out.length by omega),oE h hl,Int.toNat_natCast,Bool.and_true,ng,nv,cond_true,he2]
  try rfl
 ·intro n out ho
  rw[WX]
  simp only[Oe,nX,cond_false]
 ·intro r hr
  refine (sk ?_).trans ?_
  ·rfl
  ·exact pG.eta (hw r hr)
def zL (k_:nn→α) (a:nn):α:=
 bif Ec true (tD a.nP) then
  bif Ec true (tS a.ny) then
   k_ (⟨oB a.Ring,oB a.nP,oB a.ny,a.Next⟩:nn)
  else kd
 else kd
def ur (a:nn):Bool:=zL false (fun _=>true) a
theorem nma (k_:nn→α) (a:nn) (aJ:ur a=true):zL kd k_ a=k_ (oB a):=by
 exact sn (sn (fun _=>rfl)) aJ
def yD (k_:nm→α) (a:nm):α:=
 bif Ec true (sm a.ot) then
  bif Ec true (tL a.Table) then
   bif Ec true (uY a.nL) then
    k_ (⟨oB a.ot,oB a.Table,oB a.nL⟩:nm)
   else kd
  else kd
 else kd
def t0 (a:nm):Bool:=yD false (fun _=>true) a
theorem njS (k_:nm→α) (a:nm) (aJ:t0 a=true):yD kd k_ a=k_ (oB a):=by
 exact sn (sn (sn (fun _=>rfl))) aJ
def nl0 {α:Type} (k_:pn→α) (a:pn):α:=
 k_ a
theorem nlY {α:Type} (k_:pn→α) (a:pn):nl0 k_ a=k_ (oB a):=by
 rfl
def naq:List DC→List DC:=fun r=>pn.enc (oB (pn.nd r 0))
theorem njM (k_:Rows→α) (a:Rows) (qV:G3 (.sl [.i,.i,.i,.bool]) (.sl a)) (aJ:sm a=true):∃N,Z9 32 [.int 0,.int 0,.int 0,.bool false] naq kd k_ N a=k_ (oB a):=by
 obtain⟨hl,hw⟩:=oS qV
 exact nuk 32 (by omega) [.int 0,.int 0,.int 0,.bool false] naq kd k_ a hl aJ (fun r hr=>(sk rfl).trans (by exact pn.eta (hw r hr)))
def N_ (k_:nB→α) (a:nB):α:=
 bif Ec true (sm a.pd) then
  k_ (⟨a.Qj,a.nU,oB a.pd⟩:nB)
 else kd
def uW (a:nB):Bool:=N_ false (fun _=>true) a
theorem noG (k_:nB→α) (a:nB) (aJ:uW a=true):N_ kd k_ a=k_ (oB a):=by
 exact sn (fun _=>rfl) aJ
def njL {α:Type} (k_:nV→α) (a:nV):α:=
 k_ a
theorem njJ {α:Type} (k_:nV→α) (a:nV):njL k_ a=k_ (oB a):=by
 rfl
def RE (k_:nt→α) (a:nt):α:=
 bif Ec true (uX a.nZ) then
  bif Ec true (sm a.Maps) then
   bif Ec true (ur a.Tx) then
    bif Ec true (sm a.Rx) then
     bif Ec true (uz a.n_) then
      bif Ec true (sm a.nM) then
       bif Ec true (sm a.ox) then
        bif Ec true (uW a.Filter) then
         bif Ec true (t0 a.nh) then
          bif Ec true (sm a.oF) then
           bif Ec true (sm a.sU) then
            bif Ec true (sm a.nY) then
             bif Ec true (sm a.oq) then
              k_ (⟨oB a.nZ,oB a.Maps,oB a.Tx,oB a.Rx,oB a.n_,oB a.nM,oB a.ox,oB a.Filter,oB a.nh,oB a.oF,a.pj,oB a.sU,oB a.nY,oB a.oq,oB a.Counters⟩:nt)
             else kd
            else kd
           else kd
          else kd
         else kd
        else kd
       else kd
      else kd
     else kd
    else kd
   else kd
  else kd
 else kd
def tC (a:nt):Bool:=RE false (fun _=>true) a
theorem nsT (k_:nt→α) (a:nt) (aJ:tC a=true):RE kd k_ a=k_ (oB a):=by
 exact sn (sn (sn (sn (sn (sn (sn (sn (sn (sn (sn (sn (sn (fun _=>rfl))))))))))))) aJ
theorem nfy {a:ni} {left:Int} (NQ:ka ni.ct a.enc) (h1:0≤left) (h2:left≤1048576) (h0:0≤tl a left):tl a left≤1048576∧tL a=true:=by
 simp only[tl,OJ,id] at h0 ⊢
 by_cases c0:pF a.nC left<0
 ·simp only[c0,decide_true,cond_true] at h0;omega
 simp only[c0,decide_false,cond_false] at h0 ⊢
 have k0:=vK h1 h2 (oS (ni.VP NQ)).1 (Int.not_lt.1 c0)
 exact⟨k0.1,by simp only[tL,xo,k0.2,ng,nv,cond_true]⟩
theorem njC {a:nF} {left:Int} (NQ:ka nF.ct a.enc) (h1:0≤left) (h2:left≤1048576) (h0:0≤uh a left):uh a left≤1048576∧True:=by
 simp only[uh,QU,id] at h0 ⊢
 by_cases c0:nS (left - (len a.Body))<0
 ·simp only[c0,decide_true,cond_true] at h0;omega
 simp only[c0,decide_false,cond_false] at h0 ⊢
 have k0:=nuj (zf (nF.nul NQ)) h1 h2 (Int.not_lt.1 c0)
 exact⟨k0.1,trivial⟩
theorem nlK {a:nQ} {left:Int} (NQ:ka nQ.ct a.enc) (h1:0≤left) (h2:left≤1048576) (h0:0≤uN a left):uN a left≤1048576∧True:=by
 simp only[uN,Sz,id] at h0 ⊢
 by_cases c0:uh a.Ow left<0
 ·simp only[c0,decide_true,cond_true] at h0;omega
 simp only[c0,decide_false,cond_false] at h0 ⊢
 have k0:=njC (nQ.nxb NQ) h1 h2 (Int.not_lt.1 c0)
 exact⟨k0.1,trivial⟩
theorem noE {a:po} {left:Int} (NQ:ka po.ct a.enc) (h1:0≤left) (h2:left≤1048576) (h0:0≤v7 a left):v7 a left≤1048576∧True:=by
 simp only[v7,Vb,id] at h0 ⊢
 by_cases c0:uN a.om left<0
 ·simp only[c0,decide_true,cond_true] at h0;omega
 simp only[c0,decide_false,cond_false] at h0 ⊢
 have k0:=nlK (po.nvZ NQ) h1 h2 (Int.not_lt.1 c0)
 exact⟨k0.1,trivial⟩
theorem nlP {a:nD} {left:Int} (NQ:ka nD.ct a.enc) (h1:0≤left) (h2:left≤1048576) (h0:0≤wm a left):wm a left≤1048576∧uY a=true:=by
 simp only[wm,SA,id] at h0 ⊢
 by_cases c0:nS (left - (len a.Key))<0
 ·simp only[c0,decide_true,cond_true] at h0;omega
 simp only[c0,decide_false,cond_false] at h0 ⊢
 have k0:=nuj (zf (nD.nw_ NQ)) h1 h2 (Int.not_lt.1 c0)
 by_cases c1:pF a.Table (nS (left - (len a.Key)))<0
 ·simp only[c1,decide_true,cond_true] at h0;omega
 simp only[c1,decide_false,cond_false] at h0 ⊢
 have k1:=vK (Int.not_lt.1 c0) k0.1 (oS (nD.VQ NQ)).1 (Int.not_lt.1 c1)
 exact⟨k1.1,by simp only[uY,Of,k0.2,k1.2,ng,nv,cond_true]⟩
theorem nhG {a:nm} {left:Int} (NQ:ka nm.ct a.enc) (h1:0≤left) (h2:left≤1048576) (h0:0≤rO a left):rO a left≤1048576∧t0 a=true:=by
 simp only[rO,PQ,id] at h0 ⊢
 by_cases c0:pF a.ot left<0
 ·simp only[c0,decide_true,cond_true] at h0;omega
 simp only[c0,decide_false,cond_false] at h0 ⊢
 have k0:=vK h1 h2 (oS (nm.nsc NQ)).1 (Int.not_lt.1 c0)
 by_cases c1:tl a.Table (pF a.ot left)<0
 ·simp only[c1,decide_true,cond_true] at h0;omega
 simp only[c1,decide_false,cond_false] at h0 ⊢
 have k1:=nfy (nm.VQ NQ) (Int.not_lt.1 c0) k0.1 (Int.not_lt.1 c1)
 by_cases c2:wm a.nL (tl a.Table (pF a.ot left))<0
 ·simp only[c2,decide_true,cond_true] at h0;omega
 simp only[c2,decide_false,cond_false] at h0 ⊢
 have k2:=nlP (nm.nv0 NQ) (Int.not_lt.1 c1) k1.1 (Int.not_lt.1 c2)
 exact⟨k2.1,by simp only[t0,yD,k0.2,k1.2,k2.2,ng,nv,cond_true]⟩
theorem nqY {a:pG} {left:Int} (NQ:ka pG.ct a.enc) (h1:0≤left) (h2:left≤1048576) (h0:0≤sH a left):sH a left≤1048576∧ui a=true:=by
 simp only[sH,RD,id] at h0 ⊢
 by_cases c0:pF a.O0 left<0
 ·simp only[c0,decide_true,cond_true] at h0;omega
 simp only[c0,decide_false,cond_false] at h0 ⊢
 have k0:=vK h1 h2 (oS (pG.nr_ NQ)).1 (Int.not_lt.1 c0)
 exact⟨k0.1,by simp only[ui,RG,k0.2,ng,nv,cond_true]⟩
theorem nbP {a:Rows} {left:Int} (NQ:G3 (.sl [.i,.i,.sl [.i]]) (.sl a)) (h1:0≤left) (h2:left≤1048576) (h0:0≤t9 a left):t9 a left≤1048576∧tS a=true:=by
 obtain⟨hl,hw⟩:=oS NQ
 have h3:=neO (P:=fun r=>ui (pG.nd r 0)=true) (fun r hr l hl0 GG h=>nqY (by rw[pG.eta (hw r hr)];exact hw r hr) hl0 GG h) h1 h2 hl h0
 exact⟨h3.1,by simp only[tS,Bool.and_eq_true,List.all_eq_true];exact h3.2⟩
theorem WN {a:Rows} {left:Int} (NQ:G3 (.sl [.str]) (.sl a)) (h1:0≤left) (h2:left≤1048576) (h0:0≤rP a left):rP a left≤1048576∧sm a=true:=by
 obtain⟨hl,hw⟩:=oS NQ
 have h3:=neO (P:=fun _=>True) (fun r hr l hl0 GG h=>⟨(nuj (zf (show G3 .str (.str (rS r 0)) by have:=hw r hr;rw[←nua this] at this;exact (nvn this).1)) hl0 GG h).1,trivial⟩) h1 h2 hl h0
 exact⟨h3.1,h3.2.1⟩
theorem Zm {a:na} {left:Int} (NQ:ka na.ct a.enc) (h1:0≤left) (h2:left≤1048576) (h0:0≤pJ a left):pJ a left≤1048576∧uX a=true:=by
 simp only[pJ,Sy,id] at h0 ⊢
 by_cases c0:rP a.nK left<0
 ·simp only[c0,decide_true,cond_true] at h0;omega
 simp only[c0,decide_false,cond_false] at h0 ⊢
 have k0:=WN (na.w9 NQ) h1 h2 (Int.not_lt.1 c0)
 exact⟨k0.1,by simp only[uX,Oa,k0.2,ng,nv,cond_true]⟩
theorem U9 {a:nE} {left:Int} (NQ:ka nE.ct a.enc) (h1:0≤left) (h2:left≤1048576) (h0:0≤rD a left):rD a left≤1048576∧tD a=true:=by
 simp only[rD,RB,id] at h0 ⊢
 by_cases c0:pF a.pN left<0
 ·simp only[c0,decide_true,cond_true] at h0;omega
 simp only[c0,decide_false,cond_false] at h0 ⊢
 have k0:=vK h1 h2 (oS (nE.npJ NQ)).1 (Int.not_lt.1 c0)
 exact⟨k0.1,by simp only[tD,RF,k0.2,ng,nv,cond_true]⟩
theorem njI {a:nn} {left:Int} (NQ:ka nn.ct a.enc) (h1:0≤left) (h2:left≤1048576) (h0:0≤qc a left):qc a left≤1048576∧ur a=true:=by
 simp only[qc,zJ,id] at h0 ⊢
 by_cases c0:rD a.nP left<0
 ·simp only[c0,decide_true,cond_true] at h0;omega
 simp only[c0,decide_false,cond_false] at h0 ⊢
 have k0:=U9 (nn.nuo NQ) h1 h2 (Int.not_lt.1 c0)
 by_cases c1:t9 a.ny (rD a.nP left)<0
 ·simp only[c1,decide_true,cond_true] at h0;omega
 simp only[c1,decide_false,cond_false] at h0 ⊢
 have k1:=nbP (nn.Rl NQ) (Int.not_lt.1 c0) k0.1 (Int.not_lt.1 c1)
 exact⟨k1.1,by simp only[ur,zL,k0.2,k1.2,ng,nv,cond_true]⟩
theorem njB {a:nk} {left:Int} (NQ:ka nk.ct a.enc) (h1:0≤left) (h2:left≤1048576) (h0:0≤sY a left):sY a left≤1048576∧True:=by
 simp only[sY,QT,id] at h0 ⊢
 by_cases c0:v7 a.qU left<0
 ·simp only[c0,decide_true,cond_true] at h0;omega
 simp only[c0,decide_false,cond_false] at h0 ⊢
 have k0:=noE (nk.nwM NQ) h1 h2 (Int.not_lt.1 c0)
 exact⟨k0.1,trivial⟩
theorem nhF {a:Rows} {left:Int} (NQ:G3 (.sl [.i,.i,.i,.i,.i,.i,.i,.i,.i,.i,.i,.i,.i,.i,.i,.i,.i,.i,.i,.i,.i,.i,.i,.i,.i,.str,.i,.i,.bool,.i]) (.sl a)) (h1:0≤left) (h2:left≤1048576) (h0:0≤qG a left):qG a left≤1048576∧sm a=true:=by
 obtain⟨hl,hw⟩:=oS NQ
 have h3:=neO (P:=fun _=>True) (fun r hr l hl0 GG h=>⟨(njB (by rw[nk.eta (hw r hr)];exact hw r hr) hl0 GG h).1,trivial⟩) h1 h2 hl h0
 exact⟨h3.1,h3.2.1⟩
theorem noy {a:Rows} {left:Int} (NQ:G3 (.sl [.i,.i,.i,.sl [.i]]) (.sl a)) (h1:0≤left) (h2:left≤1048576) (h0:0≤rG a left):rG a left≤1048576∧uz a=true:=by
 obtain⟨hl,hw⟩:=oS NQ
 have h3:=neO (P:=fun r=>tD (nE.nd r 0)=true) (fun r hr l hl0 GG h=>U9 (by rw[nE.eta (hw r hr)];exact hw r hr) hl0 GG h) h1 h2 hl h0
 exact⟨h3.1,by simp only[uz,Bool.and_eq_true,List.all_eq_true];exact h3.2⟩
theorem nlJ {a:nB} {left:Int} (NQ:ka nB.ct a.enc) (h1:0≤left) (h2:left≤1048576) (h0:0≤sP a left):sP a left≤1048576∧uW a=true:=by
 simp only[sP,Sx,id] at h0 ⊢
 by_cases c0:pF a.pd left<0
 ·simp only[c0,decide_true,cond_true] at h0;omega
 simp only[c0,decide_false,cond_false] at h0 ⊢
 have k0:=vK h1 h2 (oS (nB.nsd NQ)).1 (Int.not_lt.1 c0)
 exact⟨k0.1,by simp only[uW,N_,k0.2,ng,nv,cond_true]⟩
theorem nlT {a:oy} {left:Int} (NQ:ka oy.ct a.enc) (h1:0≤left) (h2:left≤1048576) (h0:0≤tv a left):tv a left≤1048576∧True:=by
 simp only[tv,SB,id] at h0 ⊢
 by_cases c0:nS (left - (len a.Data))<0
 ·simp only[c0,decide_true,cond_true] at h0;omega
 simp only[c0,decide_false,cond_false] at h0 ⊢
 have k0:=nuj (zf (oy.nwJ NQ)) h1 h2 (Int.not_lt.1 c0)
 exact⟨k0.1,trivial⟩
theorem njG {a:Rows} {left:Int} (NQ:G3 (.sl [.i,.i,.i,.i,.i,.i,.str,.bool]) (.sl a)) (h1:0≤left) (h2:left≤1048576) (h0:0≤sZ a left):sZ a left≤1048576∧sm a=true:=by
 obtain⟨hl,hw⟩:=oS NQ
 have h3:=neO (P:=fun _=>True) (fun r hr l hl0 GG h=>⟨(nlT (by rw[oy.eta (hw r hr)];exact hw r hr) hl0 GG h).1,trivial⟩) h1 h2 hl h0
 exact⟨h3.1,h3.2.1⟩
theorem nqQ {a:nt} {left:Int} (NQ:ka nt.ct a.enc) (h1:0≤left) (h2:left≤1048576) (h0:0≤vZ a left):vZ a left≤1048576∧tC a=true:=by
 simp only[vZ,RA,id] at h0 ⊢
 by_cases c0:pJ a.nZ left<0
 ·simp only[c0,decide_true,cond_true] at h0;omega
 simp only[c0,decide_false,cond_false] at h0 ⊢
 have k0:=Zm (nt.ntF NQ) h1 h2 (Int.not_lt.1 c0)
 by_cases c1:pF a.Maps (pJ a.nZ left)<0
 ·simp only[c1,decide_true,cond_true] at h0;omega
 simp only[c1,decide_false,cond_false] at h0 ⊢
 have k1:=vK (Int.not_lt.1 c0) k0.1 (oS (nt.nvF NQ)).1 (Int.not_lt.1 c1)
 by_cases c2:qc a.Tx (pF a.Maps (pJ a.nZ left))<0
 ·simp only[c2,decide_true,cond_true] at h0;omega
 simp only[c2,decide_false,cond_false] at h0 ⊢
 have k2:=njI (nt.nwT NQ) (Int.not_lt.1 c1) k1.1 (Int.not_lt.1 c2)
 by_cases c3:qG a.Rx (qc a.Tx (pF a.Maps (pJ a.nZ left)))<0
 ·simp only[c3,decide_true,cond_true] at h0;omega
 simp only[c3,decide_false,cond_false] at h0 ⊢
 have k3:=nhF (nt.nwu NQ) (Int.not_lt.1 c2) k2.1 (Int.not_lt.1 c3)
 by_cases c4:rG a.n_ (qG a.Rx (qc a.Tx (pF a.Maps (pJ a.nZ left))))<0
 ·simp only[c4,decide_true,cond_true] at h0;omega
 simp only[c4,decide_false,cond_false] at h0 ⊢
 have k4:=noy (nt.nsb NQ) (Int.not_lt.1 c3) k3.1 (Int.not_lt.1 c4)
 by_cases c5:pF a.nM (rG a.n_ (qG a.Rx (qc a.Tx (pF a.Maps (pJ a.nZ left)))))<0
 ·simp only[c5,decide_true,cond_true] at h0;omega
 simp only[c5,decide_false,cond_false] at h0 ⊢
 have k5:=vK (Int.not_lt.1 c4) k4.1 (oS (nt.nig NQ)).1 (Int.not_lt.1 c5)
 by_cases c6:pF a.ox (pF a.nM (rG a.n_ (qG a.Rx (qc a.Tx (pF a.Maps (pJ a.nZ left))))))<0
 ·simp only[c6,decide_true,cond_true] at h0;omega
 simp only[c6,decide_false,cond_false] at h0 ⊢
 have k6:=vK (Int.not_lt.1 c5) k5.1 (oS (nt.nvk NQ)).1 (Int.not_lt.1 c6)
 by_cases c7:sP a.Filter (pF a.ox (pF a.nM (rG a.n_ (qG a.Rx (qc a.Tx (pF a.Maps (pJ a.nZ left)))))))<0
 ·simp only[c7,decide_true,cond_true] at h0;omega
 simp only[c7,decide_false,cond_false] at h0 ⊢
 have k7:=nlJ (nt.nvY NQ) (Int.not_lt.1 c6) k6.1 (Int.not_lt.1 c7)
 by_cases c8:rO a.nh (sP a.Filter (pF a.ox (pF a.nM (rG a.n_ (qG a.Rx (qc a.Tx (pF a.Maps (pJ a.nZ left))))))))<0
 ·simp only[c8,decide_true,cond_true] at h0;omega
 simp only[c8,decide_false,cond_false] at h0 ⊢
 have k8:=nhG (nt.nu1 NQ) (Int.not_lt.1 c7) k7.1 (Int.not_lt.1 c8)
 by_cases c9:sZ a.oF (rO a.nh (sP a.Filter (pF a.ox (pF a.nM (rG a.n_ (qG a.Rx (qc a.Tx (pF a.Maps (pJ a.nZ left)))))))))<0
 ·simp only[c9,decide_true,cond_true] at h0;omega
 simp only[c9,decide_false,cond_false] at h0 ⊢
 have k9:=njG (nt.nvl NQ) (Int.not_lt.1 c8) k8.1 (Int.not_lt.1 c9)
 by_cases c10:rP a.sU (sZ a.oF (rO a.nh (sP a.Filter (pF a.ox (pF a.nM (rG a.n_ (qG a.Rx (qc a.Tx (pF a.Maps (pJ a.nZ left))))))))))<0
 ·simp only[c10,decide_true,cond_true] at h0;omega
 simp only[c10,decide_false,cond_false] at h0 ⊢
 have k10:=WN (nt.nwQ NQ) (Int.not_lt.1 c9) k9.1 (Int.not_lt.1 c10)
 by_cases c11:pF a.nY (rP a.sU (sZ a.oF (rO a.nh (sP a.Filter (pF a.ox (pF a.nM (rG a.n_ (qG a.Rx (qc a.Tx (pF a.Maps (pJ a.nZ left)))))))))))<0
 ·simp only[c11,decide_true,cond_true] at h0;omega
 simp only[c11,decide_false,cond_false] at h0 ⊢
 have k11:=vK (Int.not_lt.1 c10) k10.1 (oS (nt.nun NQ)).1 (Int.not_lt.1 c11)
 by_cases c12:pF a.oq (pF a.nY (rP a.sU (sZ a.oF (rO a.nh (sP a.Filter (pF a.ox (pF a.nM (rG a.n_ (qG a.Rx (qc a.Tx (pF a.Maps (pJ a.nZ left))))))))))))<0
 ·simp only[c12,decide_true,cond_true] at h0;omega
 simp only[c12,decide_false,cond_false] at h0 ⊢
 have k12:=vK (Int.not_lt.1 c11) k11.1 (oS (nt.nu0 NQ)).1 (Int.not_lt.1 c12)
 exact⟨k12.1,by simp only[tC,RE,k0.2,k1.2,k2.2,k3.2,k4.2,k5.2,k6.2,k7.2,k8.2,k9.2,k10.2,k11.2,k12.2,ng,nv,cond_true]⟩
def zG (k_:Int→Rows→α) (oL:Int→Int→Rows→α) (rN i:Int) (Nj:Rows):α:=
 bif decide (i<len Nj) then
  bif Ec (Ec true (idx i Nj)) (inl (Int.toNat i) Nj) then
   oL (nS (rN+1)) (nS (i+1)) (List.set Nj (Int.toNat i) (bQ (nth Nj (Int.toNat i)) 0 [.int rN]))
  else kd
 else k_ rN Nj
def zF (k_:Int→Rows→α) (N m_:Nat):Int→Int→Rows→α:=
 Nat.rec (motive:=fun _=>Int→Int→Rows→α) (fun _ _ _=>kd) (fun _ oL=>zG kd k_ oL) m_
theorem US (k_:Int→Rows→α) (N m_:Nat):zF kd k_ N (m_+1)=zG kd k_ (zF kd k_ N m_):=rfl
def Sv {α:Type} (kd:α) (k_:Int→Rows→α) (l0:Int→Int→Rows→α) (a:Rows) (k:Int):α:=
 l0 k 0 a
def nbH (k_:Int→Rows→α) (N:Nat) (a:Rows) (k:Int):α:=Sv kd k_ (zF kd k_ N N) a k
def sE (k:Int):List DC:=[.int k]
def sR (a:Rows) (k:Int):Int×Rows:=(k+1*a.length,vr sE 1 a.length k)
theorem noi (k_:Int→Rows→α) (a:Rows) (k:Int) (qV:G3 (.sl [.i]) (.sl a)) (aJ:OZ 1 a k=true):∃N,nbH kd k_ N a k=k_ (sR a k).1 (sR a k).2:=by
 obtain⟨hl,hw⟩:=oS qV
 obtain⟨h1,h2,h3⟩:=Vk aJ
 refine⟨a.length+1, ?_⟩
 unfold nbH Sv sR
 refine neZ a k 1 sE (zF kd k_ (a.length+1)) k_ ?_ ?_
 ·intro n i b h hb hn
  rw[US]
  have w1:nS (k+1*(i:Int)+1)=k+1*(i:Int)+1:=nJ (by omega) (by omega)
  have hs:bQ (nth a i) 0 (sE (k+1*(i:Int)))=sE (k+1*(i:Int)):=sk (by rw[Ov (hw (nth a i) (tn h))];rfl)
  simp only[zG,pL (show i<b.length by omega),n9 (show i<b.length by omega),sF (show i<b.length by omega),oE h hl,Int.toNat_natCast,ng,nv,cond_true,hn,w1]
  rw[←hs];rfl
 ·intro n b hb
  rw[US]
  simp only[zG,←hb,nX,cond_false]
def zE (k_:Int→α) (a:Rows) (oL:Int→Int→α) (rN i:Int):α:=
 bif decide (i<len a) then
  bif Ec true (idx i a) then
   bif (rI (nth a (Int.toNat i)) 0) != rN then k_ (-1)
   else oL (nS (rN+1)) (nS (i+1))
  else kd
 else k_ rN
def zD (k_:Int→α) (N:Nat) (a:Rows) (m_:Nat):Int→Int→α:=
 Nat.rec (motive:=fun _=>Int→Int→α) (fun _ _=>kd) (fun _ oL=>zE kd k_ a oL) m_
theorem UG (k_:Int→α) (N:Nat) (a:Rows) (m_:Nat):zD kd k_ N a (m_+1)=zE kd k_ a (zD kd k_ N a m_):=rfl
def Su {α:Type} (kd:α) (k_:Int→α) (l0:Int→Int→α) (a:Rows) (k:Int):α:=
 l0 k 0
def nbC (k_:Int→α) (N:Nat) (a:Rows) (k:Int):α:=Su kd k_ (zD kd k_ N a N) a k
def rM (a:Rows) (k:Int):Int:=k+1*a.length
theorem nob (k_:Int→α) (a:Rows) (k:Int) (qV:G3 (.sl [.i]) (.sl a)) (aJ:Qk sE 1 a k=true):∃N,nbC kd k_ N a k=k_ (rM a k):=by
 obtain⟨hl,hw⟩:=oS qV
 obtain⟨h0,h1,h2,h3⟩:=ntR aJ
 refine⟨a.length+1, ?_⟩
 unfold nbC Su rM
 refine neW a k 1 sE (zD kd k_ (a.length+1) a) k_ h0 ?_ ?_
 ·intro n i h hn
  rw[UG]
  have w1:nS (k+1*(i:Int)+1)=k+1*(i:Int)+1:=nJ (by omega) (by omega)
  simp only[zE,pL h,n9 h,oE h hl,Int.toNat_natCast,ng,nv,cond_true,hn,w1,nvh,bne_self_eq_false,sE,cond_false]
 ·intro n
  rw[UG]
  simp only[zE,nX,cond_false]
def yu (k_:Int→Rows→α) (oL:Int→Int→Rows→α) (rN i:Int) (Nj:Rows):α:=
 bif decide (i<len Nj) then
  bif Ec (Ec true (idx i Nj)) (inl (Int.toNat i) Nj) then
   oL (nS (rN+1)) (nS (i+1)) (List.set Nj (Int.toNat i) (bQ (nth Nj (Int.toNat i)) 0 [.bool ((Int.tmod rN 3)==0)]))
  else kd
 else k_ rN Nj
def yt (k_:Int→Rows→α) (N m_:Nat):Int→Int→Rows→α:=
 Nat.rec (motive:=fun _=>Int→Int→Rows→α) (fun _ _ _=>kd) (fun _ oL=>yu kd k_ oL) m_
theorem Td (k_:Int→Rows→α) (N m_:Nat):yt kd k_ N (m_+1)=yu kd k_ (yt kd k_ N m_):=rfl
def QM {α:Type} (kd:α) (k_:Int→Rows→α) (l0:Int→Int→Rows→α) (a:Rows) (k:Int):α:=
 l0 k 0 a
def Y_ (k_:Int→Rows→α) (N:Nat) (a:Rows) (k:Int):α:=QM kd k_ (yt kd k_ N N) a k
def Pc (k:Int):List DC:=[.bool (Int.tmod k 3==0)]
def Q_ (a:Rows) (k:Int):Int×Rows:=(k+1*a.length,vr Pc 1 a.length k)
theorem nlv (k_:Int→Rows→α) (a:Rows) (k:Int) (qV:G3 (.sl [.bool]) (.sl a)) (aJ:OZ 1 a k=true):∃N,Y_ kd k_ N a k=k_ (Q_ a k).1 (Q_ a k).2:=by
 obtain⟨hl,hw⟩:=oS qV
 obtain⟨h1,h2,h3⟩:=Vk aJ
 refine⟨a.length+1, ?_⟩
 unfold Y_ QM Q_
 refine neZ a k 1 Pc (yt kd k_ (a.length+1)) k_ ?_ ?_
 ·intro n i b h hb hn
  rw[Td]
  have w1:nS (k+1*(i:Int)+1)=k+1*(i:Int)+1:=nJ (by omega) (by omega)
  have hs:bQ (nth a i) 0 (Pc (k+1*(i:Int)))=Pc (k+1*(i:Int)):=sk (by rw[Ov (hw (nth a i) (tn h))];rfl)
  simp only[yu,pL (show i<b.length by omega),n9 (show i<b.length by omega),sF (show i<b.length by omega),oE h hl,Int.toNat_natCast,ng,nv,cond_true,hn,w1]
  rw[←hs];rfl
 ·intro n b hb
  rw[Td]
  simp only[yu,←hb,nX,cond_false]
def yn (k_:Int→α) (a:Rows) (oL:Int→Int→α) (rN i:Int):α:=
 bif decide (i<len a) then
  bif Ec true (idx i a) then
   bif !((rB (nth a (Int.toNat i)) 0)==((Int.tmod rN 3)==0)) then k_ (-1)
   else oL (nS (rN+1)) (nS (i+1))
  else kd
 else k_ rN
def ym (k_:Int→α) (N:Nat) (a:Rows) (m_:Nat):Int→Int→α:=
 Nat.rec (motive:=fun _=>Int→Int→α) (fun _ _=>kd) (fun _ oL=>yn kd k_ a oL) m_
theorem S5 (k_:Int→α) (N:Nat) (a:Rows) (m_:Nat):ym kd k_ N a (m_+1)=yn kd k_ a (ym kd k_ N a m_):=rfl
def QE {α:Type} (kd:α) (k_:Int→α) (l0:Int→Int→α) (a:Rows) (k:Int):α:=
 l0 k 0
def YV (k_:Int→α) (N:Nat) (a:Rows) (k:Int):α:=QE kd k_ (ym kd k_ N a N) a k
def TE (a:Rows) (k:Int):Int:=k+1*a.length
theorem nli (k_:Int→α) (a:Rows) (k:Int) (qV:G3 (.sl [.bool]) (.sl a)) (aJ:Qk Pc 1 a k=true):∃N,YV kd k_ N a k=k_ (TE a k):=by
 obtain⟨hl,hw⟩:=oS qV
 obtain⟨h0,h1,h2,h3⟩:=ntR aJ
 refine⟨a.length+1, ?_⟩
 unfold YV QE TE
 refine neW a k 1 Pc (ym kd k_ (a.length+1) a) k_ h0 ?_ ?_
 ·intro n i h hn
  rw[S5]
  have w1:nS (k+1*(i:Int)+1)=k+1*(i:Int)+1:=nJ (by omega) (by omega)
  simp only[yn,pL h,n9 h,oE h hl,Int.toNat_natCast,ng,nv,cond_true,hn,w1,nw7,beq_self_eq_true,Bool.not_true,Pc,cond_false]
 ·intro n
  rw[S5]
  simp only[yn,nX,cond_false]
def wU (k_:Bytes→α) (oL:Int→Bytes→α) (rN:Int) (n7:Bytes):α:=
 bif decide (0<rN) then
  bif Ec true (oC (toStr ([[.int (IntKind.wrap .u8 (nS (48+(Int.tmod rN 10))))]])) n7) then
   oL (nS (Int.tdiv rN 10)) ((toStr ([[.int (IntKind.wrap .u8 (nS (48+(Int.tmod rN 10))))]]))++n7)
  else kd
 else bif Ec true (oC [109] n7) then
   k_ ([109]++n7)
  else kd
def zH (k_:Bytes→α) (N m_:Nat):Int→Bytes→α:=
 Nat.rec (motive:=fun _=>Int→Bytes→α) (fun _ _=>kd) (fun _ oL=>wU kd k_ oL) m_
theorem U2 (k_:Bytes→α) (N m_:Nat):zH kd k_ N (m_+1)=wU kd k_ (zH kd k_ N m_):=rfl
def Sw {α:Type} (kd:α) (k_:Bytes→α) (l0:Int→Bytes→α) (k:Int):α:=
 bif decide (k≤0) then k_ [109,48]
 else l0 k []
def nbL (k_:Bytes→α) (N:Nat) (k:Int):α:=Sw kd k_ (zH kd k_ N N) k
def mtD (k:Int):Bytes:=toStr ([[.int (IntKind.wrap .u8 (nS (48+(Int.tmod k 10))))]])
def mtl:Nat→Int→Bytes→Bytes
 | 0,_,o=>o
 | n+1,k,o=>bif decide (0<k) then mtl n (nS (Int.tdiv k 10)) (mtD k++o) else o
def R1 (k:Int):Bytes:=bif decide (k≤0) then [109,48] else [109]++mtl 25 k []
theorem noo (k_:Bytes→α) (k:Int) (h_k:G3 .i (.int k)):∃N,nbL kd k_ N k=k_ (R1 k):=by
 have h63:=wy h_k
 refine⟨26, ?_⟩
 have key:∀(n:Nat) (k:Int) (o:Bytes),0≤k→k≤9223372036854775807→k<10 ^ n→o.length+n≤100→
   zH kd k_ 26 (n+1) k o=k_ ([109]++mtl n k o):=by
  intro n
  induction n with
  | zero=>
   intro k o h0 h1 h2 h3
   have:k=0:=by simp only[Int.pow_zero] at h2;omega
   subst this
   rw[U2]
   have c1:oC [109] o=true:=by simp only[oC,List.length_cons,List.length_nil,decide_eq_true_eq];omega
   simp only[wU,c1,ng,cond_true,mtl]
   rfl
  | succ n ih=>
   intro k o h0 h1 h2 h3
   rw[U2]
   have c1:oC [109] o=true:=by simp only[oC,List.length_cons,List.length_nil,decide_eq_true_eq];omega
   by_cases hk:0<k
   ·have l1:(mtD k).length=1:=rfl
    have c2:oC (mtD k) o=true:=by simp only[oC,l1,decide_eq_true_eq];omega
    have e1:Int.tdiv k 10=k / 10:=Int.tdiv_eq_ediv_of_nonneg h0
    have e2:nS (Int.tdiv k 10)=k / 10:=by rw[e1];exact nJ (by omega) (by omega)
    have:=ih (k / 10) (mtD k++o) (by omega) (by omega) (by rw[Int.pow_succ] at h2;omega) (by rw[List.length_append,l1];omega)
    have hd:decide (0<k)=true:=decide_eq_true hk
    unfold wU mtl
    rw[hd,e2]
    show (bif Ec true (oC (mtD k) o) then _ else kd)=_
    rw[c2]
    exact this
   ·have hd:decide (0<k)=false:=decide_eq_false hk
    simp only[wU,hd,c1,ng,cond_true,cond_false,mtl]
 unfold nbL Sw R1
 by_cases h:k≤0
 ·simp only[decide_eq_true h,cond_true]
 ·simp only[decide_eq_false h,cond_false]
  exact key 25 k [] (by omega) (by omega) (by omega) (by simp)
def wJ (k_:Int→Rows→α) (oL:Int→Int→Rows→α) (rN i:Int) (Nj:Rows):α:=
 bif decide (i<len Nj) then
  bif Ec (Ec true (idx i Nj)) (inl (Int.toNat i) Nj) then
   oL (nS (rN+1)) (nS (i+1)) (List.set Nj (Int.toNat i) (bQ (nth Nj (Int.toNat i)) 0 [.str (R1 rN)]))
  else kd
 else k_ rN Nj
def wI (k_:Int→Rows→α) (N m_:Nat):Int→Int→Rows→α:=
 Nat.rec (motive:=fun _=>Int→Int→Rows→α) (fun _ _ _=>kd) (fun _ oL=>wJ kd k_ oL) m_
theorem Qo (k_:Int→Rows→α) (N m_:Nat):wI kd k_ N (m_+1)=wJ kd k_ (wI kd k_ N m_):=rfl
def OH {α:Type} (kd:α) (k_:Int→Rows→α) (l0:Int→Int→Rows→α) (a:Rows) (k:Int):α:=
 l0 k 0 a
def U0 (k_:Int→Rows→α) (N:Nat) (a:Rows) (k:Int):α:=OH kd k_ (wI kd k_ N N) a k
def th (k:Int):List DC:=[.str (R1 k)]
def uO (a:Rows) (k:Int):Int×Rows:=(k+1*a.length,vr th 1 a.length k)
theorem nhu (k_:Int→Rows→α) (a:Rows) (k:Int) (qV:G3 (.sl [.str]) (.sl a)) (aJ:OZ 1 a k=true):∃N,U0 kd k_ N a k=k_ (uO a k).1 (uO a k).2:=by
 obtain⟨hl,hw⟩:=oS qV
 obtain⟨h1,h2,h3⟩:=Vk aJ
 refine⟨a.length+1, ?_⟩
 unfold U0 OH uO
 refine neZ a k 1 th (wI kd k_ (a.length+1)) k_ ?_ ?_
 ·intro n i b h hb hn
  rw[Qo]
  have w1:nS (k+1*(i:Int)+1)=k+1*(i:Int)+1:=nJ (by omega) (by omega)
  have hs:bQ (nth a i) 0 (th (k+1*(i:Int)))=th (k+1*(i:Int)):=sk (by rw[Ov (hw (nth a i) (tn h))];rfl)
  simp only[wJ,pL (show i<b.length by omega),n9 (show i<b.length by omega),sF (show i<b.length by omega),oE h hl,Int.toNat_natCast,ng,nv,cond_true,hn,w1]
  rw[←hs];rfl
 ·intro n b hb
  rw[Qo]
  simp only[wJ,←hb,nX,cond_false]
def wH (k_:Int→α) (a:Rows) (oL:Int→Int→α) (rN i:Int):α:=
 bif decide (i<len a) then
  bif Ec true (idx i a) then
   bif !((rS (nth a (Int.toNat i)) 0)==(R1 rN)) then k_ (-1)
   else oL (nS (rN+1)) (nS (i+1))
  else kd
 else k_ rN
def wG (k_:Int→α) (N:Nat) (a:Rows) (m_:Nat):Int→Int→α:=
 Nat.rec (motive:=fun _=>Int→Int→α) (fun _ _=>kd) (fun _ oL=>wH kd k_ a oL) m_
theorem Qn (k_:Int→α) (N:Nat) (a:Rows) (m_:Nat):wG kd k_ N a (m_+1)=wH kd k_ a (wG kd k_ N a m_):=rfl
def OD {α:Type} (kd:α) (k_:Int→α) (l0:Int→Int→α) (a:Rows) (k:Int):α:=
 l0 k 0
def UN (k_:Int→α) (N:Nat) (a:Rows) (k:Int):α:=OD kd k_ (wG kd k_ N a N) a k
def uL (a:Rows) (k:Int):Int:=k+1*a.length
theorem nhl (k_:Int→α) (a:Rows) (k:Int) (qV:G3 (.sl [.str]) (.sl a)) (aJ:Qk th 1 a k=true):∃N,UN kd k_ N a k=k_ (uL a k):=by
 obtain⟨hl,hw⟩:=oS qV
 obtain⟨h0,h1,h2,h3⟩:=ntR aJ
 refine⟨a.length+1, ?_⟩
 unfold UN OD uL
 refine neW a k 1 th (wG kd k_ (a.length+1) a) k_ h0 ?_ ?_
 ·intro n i h hn
  rw[Qn]
  have w1:nS (k+1*(i:Int)+1)=k+1*(i:Int)+1:=nJ (by omega) (by omega)
  simp only[wH,pL h,n9 h,oE h hl,Int.toNat_natCast,ng,nv,cond_true,hn,w1,nd3,beq_self_eq_true,Bool.not_true,th,cond_false]
 ·intro n
  rw[Qn]
  simp only[wH,nX,cond_false]
inductive FK where
 | i
 | b
 | s
def FK.v:FK→Int→DC
 | .i,k=> .int k
 | .b,k=> .bool (Int.tmod k 3==0)
 | .s,k=> .str (R1 k)
def FK.ne:FK→List DC→Nat→Int→Bool
 | .i,r,w,k=>rI r w != k
 | .b,r,w,k=> !(rB r w==(Int.tmod k 3==0))
 | .s,r,w,k=> !(rS r w==R1 k)
def fkF (ks:List FK):Int→List DC:=
 List.rec (motive:=fun _=>Int→List DC) (fun _=>[]) (fun f _ ih k=>f.v k::ih (k+1)) ks
theorem nvV (p:List DC) (x y:DC) (r:List DC) {w:Nat} (h:p.length=w):bQ (p++x::r) w [y]=p++y::r:=by
 subst h
 simp [bQ]
theorem ntQ (p:List DC) (x d:DC) (r:List DC) {w:Nat} (h:p.length=w):(p++x::r).getD w d=x:=by
 subst h
 simp
theorem nuO {A:Rows} {i:Nat} (hi:i<A.length):A.set i (nth A i)=A:=by
 have e:nth A i=A[i]:=by simp [nth,hi]
 rw[e,List.set_getElem_self]
def mkG (i:Int) (fin:Int→Rows→α) (ks:List FK):Nat→Int→Rows→α:=
 List.rec (motive:=fun _=>Nat→Int→Rows→α) (fun _ k A=>fin k A) (fun f _ ih w k A=>bif Ec (Ec true (idx i A)) (inl (Int.toNat i) A) then ih (w+1) (nS (k+1)) (List.set A (Int.toNat i) (bQ (nth A (Int.toNat i)) w [f.v k])) else kd) ks
theorem nwD (i:Nat) (fin:Int→Rows→α):∀(ks:List FK) (w:Nat) (K:Int) (A:Rows) (p r:List DC),i<A.length→nth A i=p++r→p.length=w→r.length=ks.length→0≤K→K+ks.length≤9223372036854775807→
  mkG kd (i:Int) fin ks w K A=fin (K+ks.length) (A.set i (p++fkF ks K)):=by
 intro ks
 induction ks with
 | nil=>
  intro w K A p r hi hn hp hr h0 h1
  have hr:r=[]:=List.length_eq_zero_iff.1 hr
  subst hr
  show fin K A=fin (K+((0:Nat):Int)) (A.set i (p++[]))
  rw[←hn,nuO hi]
  simp
 | cons f fs ih=>
  intro w K A p r hi hn hp hr h0 h1
  cases r with
  | nil=>cases hr
  | cons x r=>
   have hf:((f::fs).length:Int)=(fs.length:Int)+1:=by simp
   rw[hf] at h1 ⊢
   show (bif Ec (Ec true (idx (i:Int) A)) (inl (Int.toNat (i:Int)) A) then mkG kd (i:Int) fin fs (w+1) (nS (K+1)) (List.set A (Int.toNat (i:Int)) (bQ (nth A (Int.toNat (i:Int))) w [f.v K])) else kd)=_
   simp only[Int.toNat_natCast,n9 hi,sF hi,ng,cond_true]
   rw[show nS (K+1)=K+1 from nJ (by omega) (by omega),hn,nvV p x (f.v K) r hp]
   refine (ih (w+1) (K+1) _ (p++[f.v K]) r (by rw[List.length_set];exact hi) (by rw[ZM hi,List.append_assoc];rfl) (by simp [hp]) (by simpa using hr) (by omega) (by omega)).trans ?_
   rw[List.set_set,show K+1+(fs.length:Int)=K+((fs.length:Int)+1) by omega,List.append_assoc]
   rfl
def mkL (ks:List FK) {α:Type} (kd:α) (k_:Int→Rows→α) (oL:Int→Int→Rows→α) (k i:Int) (a:Rows):α:=
 bif decide (i<len a) then mkG kd i (fun k A=>oL k (nS (i+1)) A) ks 0 k a else k_ k a
def ns7 (ks:List FK) {α:Type} (kd:α) (k_:Int→Rows→α) (N m_:Nat):Int→Int→Rows→α:=
 Nat.rec (motive:=fun _=>Int→Int→Rows→α) (fun _ _ _=>kd) (fun _ oL=>mkL ks kd k_ oL) m_
def mkT {α:Type} (kd:α) (k_:Int→Rows→α) (l0:Int→Int→Rows→α) (a:Rows) (k:Int):α:=l0 k 0 a
def nmf (ks:List FK) {α:Type} (kd:α) (k_:Int→Rows→α) (N:Nat) (a:Rows) (k:Int):α:=mkT kd k_ (ns7 ks kd k_ N N) a k
theorem nrk {c:Int} (h0:0≤c) (h1:c≤1000) {i:Nat} (hi:i≤16777216):0≤c*(i:Int)∧c*(i:Int)≤16777216000:=by
 refine⟨Int.mul_nonneg h0 (by omega), ?_⟩
 have:=Int.mul_le_mul h1 (show (i:Int)≤16777216 by omega) (by omega) (by omega)
 omega
theorem nvQ {α:Type} (ks:List FK) (c:Int) (hc:(ks.length:Int)=c) (JF:c≤1000) (kd:α) (k_:Int→Rows→α) (a:Rows) (k:Int) (hl:a.length≤9223372036854775807) (hr:∀r∈a,r.length=ks.length) (aJ:OZ c a k=true):
  ∃N,nmf ks kd k_ N a k=k_ (k+c*a.length) (vr (fkF ks) c a.length k):=by
 obtain⟨h1,h2,h3⟩:=Vk aJ
 refine⟨a.length+1, ?_⟩
 refine neZ a k c (fkF ks) (ns7 ks kd k_ (a.length+1)) k_ ?_ ?_
 ·intro n i b h hb hn
  show mkL ks kd k_ (ns7 ks kd k_ (a.length+1) n) (k+c*i) (i:Int) b=_
  have me:i<b.length:=by omega
  have hw:=hr _ (tn h)
  have hm:=nrk (c:=c) (by omega) JF (show i≤16777216 by omega)
  unfold mkL
  rw[pL me,cond_true]
  refine (nwD kd i _ ks 0 (k+c*i) b [] (nth a i) me hn rfl hw (by omega) (by omega)).trans ?_
  rw[oE h hl,hc]
  rfl
 ·intro n b hb
  show mkL ks kd k_ (ns7 ks kd k_ (a.length+1) n) (k+c*a.length) (a.length:Int) b=_
  unfold mkL
  rw[←hb,nX,cond_false]
def hlG {α:Type} (kd no:α) (a:Rows) (i:Int) (fin:Int→α) (ks:List FK):Nat→Int→α:=
 List.rec (motive:=fun _=>Nat→Int→α) (fun _ k=>fin k) (fun f _ ih w k=>bif Ec true (idx i a) then bif f.ne (nth a (Int.toNat i)) w k then no else ih (w+1) (nS (k+1)) else kd) ks
theorem nwB {α:Type} (kd no:α) (a:Rows) (i:Nat) (hi:i<a.length) (fin:Int→α):∀(ks:List FK) (w:Nat) (K:Int) (p:List DC),nth a i=p++fkF ks K→p.length=w→0≤K→K+ks.length≤9223372036854775807→
  hlG kd no a (i:Int) fin ks w K=fin (K+ks.length):=by
 intro ks
 induction ks with
 | nil=>
  intro w K p hn hp h0 h1
  show fin K=fin (K+((0:Nat):Int))
  simp
 | cons f fs ih=>
  intro w K p hn hp h0 h1
  have hf:((f::fs).length:Int)=(fs.length:Int)+1:=by simp
  rw[hf] at h1 ⊢
  have hn:nth a i=p++f.v K::fkF fs (K+1):=hn
  show (bif Ec true (idx (i:Int) a) then bif f.ne (nth a (Int.toNat (i:Int))) w K then no else hlG kd no a (i:Int) fin fs (w+1) (nS (K+1)) else kd)=_
  have he:f.ne (nth a i) w K=false:=by
   rw[hn]
   cases f
   ·simp only[FK.ne,rI,ntQ p _ _ _ hp,FK.v,DC.asInt,bne_self_eq_false]
   ·simp only[FK.ne,rB,ntQ p _ _ _ hp,FK.v,DC.asBool,beq_self_eq_true,Bool.not_true]
   ·simp only[FK.ne,rS,ntQ p _ _ _ hp,FK.v,DC.Gr,beq_self_eq_true,Bool.not_true]
  simp only[Int.toNat_natCast,n9 hi,ng,cond_true,cond_false,he]
  rw[show nS (K+1)=K+1 from nJ (by omega) (by omega)]
  refine (ih (w+1) (K+1) (p++[f.v K]) (by rw[hn,List.append_assoc];rfl) (by simp [hp]) (by omega) (by omega)).trans ?_
  rw[show K+1+(fs.length:Int)=K+((fs.length:Int)+1) by omega]
def hlL (ks:List FK) {α:Type} (kd:α) (k_:Int→α) (a:Rows) (oL:Int→Int→α) (k i:Int):α:=
 bif decide (i<len a) then hlG kd (k_ (-1)) a i (fun k=>oL k (nS (i+1))) ks 0 k else k_ k
def nse (ks:List FK) {α:Type} (kd:α) (k_:Int→α) (N:Nat) (a:Rows) (m_:Nat):Int→Int→α:=
 Nat.rec (motive:=fun _=>Int→Int→α) (fun _ _=>kd) (fun _ oL=>hlL ks kd k_ a oL) m_
def hlT {α:Type} (kd:α) (k_:Int→α) (l0:Int→Int→α) (a:Rows) (k:Int):α:=l0 k 0
def nkz (ks:List FK) {α:Type} (kd:α) (k_:Int→α) (N:Nat) (a:Rows) (k:Int):α:=hlT kd k_ (nse ks kd k_ N a N) a k
theorem nvL {α:Type} (ks:List FK) (c:Int) (hc:(ks.length:Int)=c) (JF:c≤1000) (kd:α) (k_:Int→α) (a:Rows) (k:Int) (hl:a.length≤9223372036854775807) (aJ:Qk (fkF ks) c a k=true):
  ∃N,nkz ks kd k_ N a k=k_ (k+c*a.length):=by
 obtain⟨h0,h1,h2,h3⟩:=ntR aJ
 refine⟨a.length+1, ?_⟩
 refine neW a k c (fkF ks) (nse ks kd k_ (a.length+1) a) k_ h0 ?_ ?_
 ·intro n i h hn
  show hlL ks kd k_ a (nse ks kd k_ (a.length+1) a n) (k+c*i) (i:Int)=_
  have hm:=nrk (c:=c) (by omega) JF (show i≤16777216 by omega)
  unfold hlL
  rw[pL h,cond_true]
  refine (nwB kd _ a i h _ ks 0 (k+c*i) [] hn rfl (by omega) (by omega)).trans ?_
  rw[oE h hl,hc]
 ·intro n
  show hlL ks kd k_ a (nse ks kd k_ (a.length+1) a n) (k+c*a.length) (a.length:Int)=_
  unfold hlL
  rw[nX,cond_false]
def Vn:List FK:=[.i,.i,.i,.i,.i,.i,.s,.b]
def Pf:Int→List DC:=fkF Vn
def OX (a:Rows) (k:Int):Int×Rows:=(k+8*a.length,vr Pf 8 a.length k)
theorem nhr (k_:Int→Rows→α) (a:Rows) (k:Int) (qV:G3 (.sl [.i,.i,.i,.i,.i,.i,.str,.bool]) (.sl a)) (aJ:OZ 8 a k=true):∃N,nmf Vn kd k_ N a k=k_ (OX a k).1 (OX a k).2:=by
 obtain⟨hl,hw⟩:=oS qV
 exact nvQ Vn 8 (by rfl) (by decide) kd k_ a k hl (fun r hr=>Ov (hw r hr)) aJ
def RO (a:Rows) (k:Int):Int:=k+8*a.length
theorem nhi (k_:Int→α) (a:Rows) (k:Int) (qV:G3 (.sl [.i,.i,.i,.i,.i,.i,.str,.bool]) (.sl a)) (aJ:Qk Pf 8 a k=true):∃N,nkz Vn kd k_ N a k=k_ (RO a k):=by
 exact nvL Vn 8 (by rfl) (by decide) kd k_ a k (oS qV).1 aJ
def Rb:List FK:=[.i,.i,.i,.b]
def zi:Int→List DC:=fkF Rb
def zN (a:Rows) (k:Int):Int×Rows:=(k+4*a.length,vr zi 4 a.length k)
theorem nfm (k_:Int→Rows→α) (a:Rows) (k:Int) (qV:G3 (.sl [.i,.i,.i,.bool]) (.sl a)) (aJ:OZ 4 a k=true):∃N,nmf Rb kd k_ N a k=k_ (zN a k).1 (zN a k).2:=by
 obtain⟨hl,hw⟩:=oS qV
 exact nvQ Rb 4 (by rfl) (by decide) kd k_ a k hl (fun r hr=>Ov (hw r hr)) aJ
def Pm (a:Rows) (k:Int):Int:=k+4*a.length
theorem nfc (k_:Int→α) (a:Rows) (k:Int) (qV:G3 (.sl [.i,.i,.i,.bool]) (.sl a)) (aJ:Qk zi 4 a k=true):∃N,nkz Rb kd k_ N a k=k_ (Pm a k):=by
 exact nvL Rb 4 (by rfl) (by decide) kd k_ a k (oS qV).1 aJ
def nhM:List FK:=[.i,.i,.i,.i,.i,.i,.i,.i,.i]
def nad:Int→List DC:=fkF nhM
def OW (a:Rows) (k:Int):Int×Rows:=(k+9*a.length,vr nad 9 a.length k)
theorem nlB (k_:Int→Rows→α) (a:Rows) (k:Int) (qV:G3 (.sl [.i,.i,.i,.i,.i,.i,.i,.i,.i]) (.sl a)) (aJ:OZ 9 a k=true):∃N,nmf nhM kd k_ N a k=k_ (OW a k).1 (OW a k).2:=by
 obtain⟨hl,hw⟩:=oS qV
 exact nvQ nhM 9 (by rfl) (by decide) kd k_ a k hl (fun r hr=>Ov (hw r hr)) aJ
def Qu (a:Rows) (k:Int):Int:=k+9*a.length
theorem nlo (k_:Int→α) (a:Rows) (k:Int) (qV:G3 (.sl [.i,.i,.i,.i,.i,.i,.i,.i,.i]) (.sl a)) (aJ:Qk nad 9 a k=true):∃N,nkz nhM kd k_ N a k=k_ (Qu a k):=by
 exact nvL nhM 9 (by rfl) (by decide) kd k_ a k (oS qV).1 aJ
def Vo:List FK:=[.i,.i,.i,.i,.b,.b]
def Pg:Int→List DC:=fkF Vo
def OY (a:Rows) (k:Int):Int×Rows:=(k+6*a.length,vr Pg 6 a.length k)
theorem nhA (k_:Int→Rows→α) (a:Rows) (k:Int) (qV:G3 (.sl [.i,.i,.i,.i,.bool,.bool]) (.sl a)) (aJ:OZ 6 a k=true):∃N,nmf Vo kd k_ N a k=k_ (OY a k).1 (OY a k).2:=by
 obtain⟨hl,hw⟩:=oS qV
 exact nvQ Vo 6 (by rfl) (by decide) kd k_ a k hl (fun r hr=>Ov (hw r hr)) aJ
def RQ (a:Rows) (k:Int):Int:=k+6*a.length
theorem nhp (k_:Int→α) (a:Rows) (k:Int) (qV:G3 (.sl [.i,.i,.i,.i,.bool,.bool]) (.sl a)) (aJ:Qk Pg 6 a k=true):∃N,nkz Vo kd k_ N a k=k_ (RQ a k):=by
 exact nvL Vo 6 (by rfl) (by decide) kd k_ a k (oS qV).1 aJ
def Rc:List FK:=[.i,.i,.i,.i,.i,.i,.i,.i,.i,.i,.i,.i,.i,.i,.i,.i,.i,.i,.i,.i,.i,.i,.i,.i,.i,.s,.i,.i,.b,.i]
def zj:Int→List DC:=fkF Rc
def zP (a:Rows) (k:Int):Int×Rows:=(k+30*a.length,vr zj 30 a.length k)
theorem nfo (k_:Int→Rows→α) (a:Rows) (k:Int) (qV:G3 (.sl [.i,.i,.i,.i,.i,.i,.i,.i,.i,.i,.i,.i,.i,.i,.i,.i,.i,.i,.i,.i,.i,.i,.i,.i,.i,.str,.i,.i,.bool,.i]) (.sl a)) (aJ:OZ 30 a k=true):∃N,nmf Rc kd k_ N a k=k_ (zP a k).1 (zP a k).2:=by
 obtain⟨hl,hw⟩:=oS qV
 exact nvQ Rc 30 (by rfl) (by decide) kd k_ a k hl (fun r hr=>Ov (hw r hr)) aJ
def Pn (a:Rows) (k:Int):Int:=k+30*a.length
theorem nfe (k_:Int→α) (a:Rows) (k:Int) (qV:G3 (.sl [.i,.i,.i,.i,.i,.i,.i,.i,.i,.i,.i,.i,.i,.i,.i,.i,.i,.i,.i,.i,.i,.i,.i,.i,.i,.str,.i,.i,.bool,.i]) (.sl a)) (aJ:Qk zj 30 a k=true):∃N,nkz Rc kd k_ N a k=k_ (Pn a k):=by
 exact nvL Rc 30 (by rfl) (by decide) kd k_ a k (oS qV).1 aJ
def nhN:List FK:=[.i,.i,.i,.i,.i,.i,.i]
def nae:Int→List DC:=fkF nhN
def Ra (a:Rows) (k:Int):Int×Rows:=(k+7*a.length,vr nae 7 a.length k)
theorem nlG (k_:Int→Rows→α) (a:Rows) (k:Int) (qV:G3 (.sl [.i,.i,.i,.i,.i,.i,.i]) (.sl a)) (aJ:OZ 7 a k=true):∃N,nmf nhN kd k_ N a k=k_ (Ra a k).1 (Ra a k).2:=by
 obtain⟨hl,hw⟩:=oS qV
 exact nvQ nhN 7 (by rfl) (by decide) kd k_ a k hl (fun r hr=>Ov (hw r hr)) aJ
def TF (a:Rows) (k:Int):Int:=k+7*a.length
theorem nlt (k_:Int→α) (a:Rows) (k:Int) (qV:G3 (.sl [.i,.i,.i,.i,.i,.i,.i]) (.sl a)) (aJ:Qk nae 7 a k=true):∃N,nkz nhN kd k_ N a k=k_ (TF a k):=by
 exact nvL nhN 7 (by rfl) (by decide) kd k_ a k (oS qV).1 aJ
def yw (k_:Int→Rows→α) (oL:Int→Int→Rows→α) (rN i:Int) (Nj:Rows):α:=
 let z0:Rows:=List.set Nj (Int.toNat i) (bQ (nth Nj (Int.toNat i)) 0 [.int rN])
 let z1:Rows:=List.set z0 (Int.toNat i) (bQ (nth z0 (Int.toNat i)) 1 [.int (nS (rN+1))])
 let z2:Int:=nS ((nS (rN+1))+1)
 let z3:Rows:=List.set z1 (Int.toNat i) (bQ (nth z1 (Int.toNat i)) 2 [.int z2])
 let z4:List DC:=nth z3 (Int.toNat i)
 let z5:Rows:=rR z4 3
 let z6:Int:=nS (z2+1)
 let z7:Int×Rows:=sR z5 z6
 bif decide (i<len Nj) then
  bif Ec (Ec true (idx i Nj)) (inl (Int.toNat i) Nj) then
   bif Ec (Ec true (idx i z0)) (inl (Int.toNat i) z0) then
    bif Ec (Ec true (idx i z1)) (inl (Int.toNat i) z1) then
     bif Ec (Ec (Ec true (idx i z3)) (inl (Int.toNat i) z3)) (OZ 1 z5 z6) then
      oL z7.1 (nS (i+1)) (List.set z3 (Int.toNat i) (bQ z4 3 [.sl z7.2]))
     else kd
    else kd
   else kd
  else kd
 else k_ rN Nj
def yv (k_:Int→Rows→α) (N m_:Nat):Int→Int→Rows→α:=
 Nat.rec (motive:=fun _=>Int→Int→Rows→α) (fun _ _ _=>kd) (fun _ oL=>yw kd k_ oL) m_
theorem Tg (k_:Int→Rows→α) (N m_:Nat):yv kd k_ N (m_+1)=yw kd k_ (yv kd k_ N m_):=rfl
def QO {α:Type} (kd:α) (k_:Int→Rows→α) (l0:Int→Int→Rows→α) (a:Rows) (k:Int):α:=
 l0 k 0 a
def Zd (k_:Int→Rows→α) (N:Nat) (a:Rows) (k:Int):α:=QO kd k_ (yv kd k_ N N) a k
def sW (r:List DC) (k:Int):List DC×Int:=([.int (k),.int (k+1),.int (k+1+1),.sl (vr sE 1 (rR r 3).length (k+1+1+1))],k+1+1+1+1*(rR r 3).length)
def Sc (r:List DC) (k:Int):Bool:=OZ 1 (rR r 3) (k+1+1+1)
def zO (a:Rows) (k:Int):Int×Rows:=((R2 sW a k).2,(R2 sW a k).1)
theorem nly (k_:Int→Rows→α) (a:Rows) (k:Int) (qV:G3 (.sl [.i,.i,.i,.sl [.i]]) (.sl a)) (aJ:yE sW Sc a k=true):∃N,Zd kd k_ N a k=k_ (zO a k).1 (zO a k).2:=by
 obtain⟨hl,hw⟩:=oS qV
 refine⟨a.length+1, ?_⟩
 unfold Zd QO zO
 refine nuJ a k sW Sc (yv kd k_ (a.length+1)) k_ aJ ?_ ?_
 ·intro n i k b h hb hn hg
  rw[Tg]
  have hr:=Ov (hw (nth a i) (tn h))
  have hk: -1*4≤k:=by have:=(Vk hg).2.1;omega
  rw[←hn] at hg hr ⊢
  have me:i<b.length:=by omega
  generalize MD:nth b i=r at*
  match r,hr with
  | [a0,a1,a2,a3],_=>
   have H3:OZ 1 (DC.cl a3) (k+1+1+1)=true:=hg
   obtain⟨g1,g2,g3⟩:=Vk H3
   have rr:∀x0 x1 x2 x3:DC,rR [x0,x1,x2,x3] 3=DC.cl x3:=fun _ _ _ _=>rfl
   have s0:∀x0 x1 x2 x3 v:DC,bQ [x0,x1,x2,x3] 0 [v]=[v,x1,x2,x3]:=fun _ _ _ _ _=>rfl
   have s1:∀x0 x1 x2 x3 v:DC,bQ [x0,x1,x2,x3] 1 [v]=[x0,v,x2,x3]:=fun _ _ _ _ _=>rfl
   have s2:∀x0 x1 x2 x3 v:DC,bQ [x0,x1,x2,x3] 2 [v]=[x0,x1,v,x3]:=fun _ _ _ _ _=>rfl
   have s3:∀x0 x1 x2 x3 v:DC,bQ [x0,x1,x2,x3] 3 [v]=[x0,x1,x2,v]:=fun _ _ _ _ _=>rfl
   have w0:nS (k+1)=k+1:=nJ (by omega) (by omega)
   have w1:nS (k+1+1)=k+1+1:=nJ (by omega) (by omega)
   have w2:nS (k+1+1+1)=k+1+1+1:=nJ (by omega) (by omega)
   simp only[yw,pL me,n9 me,sF me,oE h hl,Int.toNat_natCast,ng,nv,cond_true,MD,w0,w1,w2,nuA,nuG,List.set_set,ZM me,s0,s1,s2,s3,rr,sR,H3,sW]
 ·intro n k b hb
  rw[Tg]
  simp only[yw,←hb,nX,cond_false]
def nal (a:Rows):Bool:=sm a && a.all (fun r=>sm (rR r 3))
theorem no0 {a:Rows} (h:nal a=true) {k:Int} (h0:0≤k) (h1:k≤600000000000000):yE sW Sc a k=true∧k≤(zO a k).1∧(zO a k).1≤k+281475110928384:=by
 simp only[nal,Bool.and_eq_true,List.all_eq_true] at h
 have hl:=uG h.1
 obtain⟨h2,h3,h4⟩:=nmg (f:=sW) (g:=Sc) (B:=1125899906842000) (C:=16777224) (by omega) a k (fun r hr k k0 k1=>by
  have hs:=uG (h.2 r hr)
  refine⟨y8 (h.2 r hr) (by omega) (by omega), ?_, ?_⟩
  ·show k≤k+1+1+1+1*((rR r 3).length:Int)
   omega
  ·show k+1+1+1+1*((rR r 3).length:Int)≤k+16777224
   omega) h0 (by omega)
 exact⟨h2,h3,by show (R2 sW a k).2≤_;omega⟩
def yp (k_:Int→α) (a:Rows) (oL:Int→Int→α) (rN i:Int):α:=
 let z0:Int:=nS ((nS (rN+1))+1)
 let z1:Int:=nS (z0+1)
 let z2:Int:=rM (rR (nth a (Int.toNat i)) 3) z1
 bif decide (i<len a) then
  bif Ec true (idx i a) then
   bif (rI (nth a (Int.toNat i)) 0) != rN then k_ (-1)
   else bif Ec true (idx i a) then
     bif (rI (nth a (Int.toNat i)) 1) != (nS (rN+1)) then k_ (-1)
     else bif Ec true (idx i a) then
       bif (rI (nth a (Int.toNat i)) 2) != z0 then k_ (-1)
       else bif Ec (Ec true (idx i a)) (Qk sE 1 (rR (nth a (Int.toNat i)) 3) z1) then
         bif decide (z2<0) then k_ (-1)
         else oL z2 (nS (i+1))
        else kd
      else kd
    else kd
  else kd
 else k_ rN
def yo (k_:Int→α) (N:Nat) (a:Rows) (m_:Nat):Int→Int→α:=
 Nat.rec (motive:=fun _=>Int→Int→α) (fun _ _=>kd) (fun _ oL=>yp kd k_ a oL) m_
theorem S8 (k_:Int→α) (N:Nat) (a:Rows) (m_:Nat):yo kd k_ N a (m_+1)=yp kd k_ a (yo kd k_ N a m_):=rfl
def QG {α:Type} (kd:α) (k_:Int→α) (l0:Int→Int→α) (a:Rows) (k:Int):α:=
 l0 k 0
def YZ (k_:Int→α) (N:Nat) (a:Rows) (k:Int):α:=QG kd k_ (yo kd k_ N a N) a k
def neX (a:Rows) (k:Int):Bool:=same a (R2 sW a k).1 && yE sW Sc a k
def X2 (a:Rows) (k:Int):Int:=(R2 sW a k).2
theorem nll (k_:Int→α) (a:Rows) (k:Int) (qV:G3 (.sl [.i,.i,.i,.sl [.i]]) (.sl a)) (aJ:neX a k=true):∃N,YZ kd k_ N a k=k_ (X2 a k):=by
 obtain⟨hl,hw⟩:=oS qV
 simp only[neX,Bool.and_eq_true] at aJ
 refine⟨a.length+1, ?_⟩
 unfold YZ QG X2
 refine nuz a k sW Sc (yo kd k_ (a.length+1) a) k_ aJ.2 (sA aJ.1) ?_ ?_
 ·intro n i k h hn hg
  rw[S8]
  have H3:OZ 1 (rR (nth a i) 3) (k+1+1+1)=true:=hg
  obtain⟨g1,g2,g3⟩:=Vk H3
  have e:rR (nth a i) 3=vr sE 1 (rR (nth a i) 3).length (k+1+1+1):=congrArg (fun r=>rR r 3) hn
  have hh:Qk sE 1 (rR (nth a i) 3) (k+1+1+1)=true:=by
   simp only[Qk,Bool.and_eq_true]
   exact⟨by rw[←e];exact qu _,H3⟩
  have r0:rI (nth a i) 0=k:=congrArg (fun r=>rI r 0) hn
  have r1:rI (nth a i) 1=k+1:=congrArg (fun r=>rI r 1) hn
  have r2:rI (nth a i) 2=k+1+1:=congrArg (fun r=>rI r 2) hn
  have w0:nS (k+1)=k+1:=nJ (by omega) (by omega)
  have w1:nS (k+1+1)=k+1+1:=nJ (by omega) (by omega)
  have w2:nS (k+1+1+1)=k+1+1+1:=nJ (by omega) (by omega)
  have hz:¬k+1+1+1+1*((rR (nth a i) 3).length:Int)<0:=by omega
  simp only[yp,pL h,n9 h,oE h hl,Int.toNat_natCast,ng,nv,cond_true,hh,rM,hz,w0,w1,w2,r0,r1,r2,bne_self_eq_false,beq_self_eq_true,Bool.not_true,decide_false,cond_false,sW]
 ·intro n k
  rw[S8]
  simp only[yp,nX,cond_false]
theorem nwf {a:Rows} (h:nal a=true) {k:Int} (h0:0≤k) (h1:k≤600000000000000):yE sW Sc a k=true∧neX (R2 sW a k).1 k=true∧(R2 sW (R2 sW a k).1 k).2=(R2 sW a k).2∧k≤(R2 sW a k).2∧(R2 sW a k).2≤k+281475110928384:=by
 obtain⟨h2,h3,h4⟩:=no0 h h0 h1
 have hl:∀r k,(rR (sW r k).1 3).length=(rR r 3).length:=fun r k=>qO sE 1 _ _
 have hf:∀r k,sW (sW r k).1 k=sW r k:=by
  intro r k
  have e:=hl r k
  unfold sW at e ⊢
  simp only[e]
 have hg:∀r k,Sc (sW r k).1 k=Sc r k:=by
  intro r k
  simp only[Sc,OZ,sm,hl]
 obtain⟨t1,t2⟩:=nmh hf hg a k
 refine⟨h2, ?_,by rw[t1],h3,h4⟩
 simp only[neX,t1,t2,h2,qu,Bool.and_self]
def yy (k_:Int→Rows→α) (oL:Int→Int→Rows→α) (rN i:Int) (Nj:Rows):α:=
 let z0:Rows:=List.set Nj (Int.toNat i) (bQ (nth Nj (Int.toNat i)) 0 [.int rN])
 let z1:Rows:=List.set z0 (Int.toNat i) (bQ (nth z0 (Int.toNat i)) 1 [.int (nS (rN+1))])
 let z2:List DC:=nth z1 (Int.toNat i)
 let z3:Rows:=rR z2 2
 let z4:Int:=nS ((nS (rN+1))+1)
 let z5:Int×Rows:=sR z3 z4
 bif decide (i<len Nj) then
  bif Ec (Ec true (idx i Nj)) (inl (Int.toNat i) Nj) then
   bif Ec (Ec true (idx i z0)) (inl (Int.toNat i) z0) then
    bif Ec (Ec (Ec true (idx i z1)) (inl (Int.toNat i) z1)) (OZ 1 z3 z4) then
     oL z5.1 (nS (i+1)) (List.set z1 (Int.toNat i) (bQ z2 2 [.sl z5.2]))
    else kd
   else kd
  else kd
 else k_ rN Nj
def yx (k_:Int→Rows→α) (N m_:Nat):Int→Int→Rows→α:=
 Nat.rec (motive:=fun _=>Int→Int→Rows→α) (fun _ _ _=>kd) (fun _ oL=>yy kd k_ oL) m_
theorem Tk (k_:Int→Rows→α) (N m_:Nat):yx kd k_ N (m_+1)=yy kd k_ (yx kd k_ N m_):=rfl
def QR {α:Type} (kd:α) (k_:Int→Rows→α) (l0:Int→Int→Rows→α) (a:Rows) (k:Int):α:=
 l0 k 0 a
def Zj (k_:Int→Rows→α) (N:Nat) (a:Rows) (k:Int):α:=QR kd k_ (yx kd k_ N N) a k
def sX (r:List DC) (k:Int):List DC×Int:=([.int (k),.int (k+1),.sl (vr sE 1 (rR r 2).length (k+1+1))],k+1+1+1*(rR r 2).length)
def Sd (r:List DC) (k:Int):Bool:=OZ 1 (rR r 2) (k+1+1)
def zQ (a:Rows) (k:Int):Int×Rows:=((R2 sX a k).2,(R2 sX a k).1)
theorem nlD (k_:Int→Rows→α) (a:Rows) (k:Int) (qV:G3 (.sl [.i,.i,.sl [.i]]) (.sl a)) (aJ:yE sX Sd a k=true):∃N,Zj kd k_ N a k=k_ (zQ a k).1 (zQ a k).2:=by
 obtain⟨hl,hw⟩:=oS qV
 refine⟨a.length+1, ?_⟩
 unfold Zj QR zQ
 refine nuJ a k sX Sd (yx kd k_ (a.length+1)) k_ aJ ?_ ?_
 ·intro n i k b h hb hn hg
  rw[Tk]
  have hr:=Ov (hw (nth a i) (tn h))
  have hk: -1*3≤k:=by have:=(Vk hg).2.1;omega
  rw[←hn] at hg hr ⊢
  have me:i<b.length:=by omega
  generalize MD:nth b i=r at*
  match r,hr with
  | [a0,a1,a2],_=>
   have H3:OZ 1 (DC.cl a2) (k+1+1)=true:=hg
   obtain⟨g1,g2,g3⟩:=Vk H3
   have rr:∀x0 x1 x2:DC,rR [x0,x1,x2] 2=DC.cl x2:=fun _ _ _=>rfl
   have s0:∀x0 x1 x2 v:DC,bQ [x0,x1,x2] 0 [v]=[v,x1,x2]:=fun _ _ _ _=>rfl
   have s1:∀x0 x1 x2 v:DC,bQ [x0,x1,x2] 1 [v]=[x0,v,x2]:=fun _ _ _ _=>rfl
   have s2:∀x0 x1 x2 v:DC,bQ [x0,x1,x2] 2 [v]=[x0,x1,v]:=fun _ _ _ _=>rfl
   have w0:nS (k+1)=k+1:=nJ (by omega) (by omega)
   have w1:nS (k+1+1)=k+1+1:=nJ (by omega) (by omega)
   simp only[yy,pL me,n9 me,sF me,oE h hl,Int.toNat_natCast,ng,nv,cond_true,MD,w0,w1,nuA,nuG,List.set_set,ZM me,s0,s1,s2,rr,sR,H3,sX]
 ·intro n k b hb
  rw[Tk]
  simp only[yy,←hb,nX,cond_false]
def PX (a:Rows):Bool:=sm a && a.all (fun r=>sm (rR r 2))
theorem no1 {a:Rows} (h:PX a=true) {k:Int} (h0:0≤k) (h1:k≤600000000000000):yE sX Sd a k=true∧k≤(zQ a k).1∧(zQ a k).1≤k+281475110928384:=by
 simp only[PX,Bool.and_eq_true,List.all_eq_true] at h
 have hl:=uG h.1
 obtain⟨h2,h3,h4⟩:=nmg (f:=sX) (g:=Sd) (B:=1125899906842000) (C:=16777224) (by omega) a k (fun r hr k k0 k1=>by
  have hs:=uG (h.2 r hr)
  refine⟨y8 (h.2 r hr) (by omega) (by omega), ?_, ?_⟩
  ·show k≤k+1+1+1*((rR r 2).length:Int)
   omega
  ·show k+1+1+1*((rR r 2).length:Int)≤k+16777224
   omega) h0 (by omega)
 exact⟨h2,h3,by show (R2 sX a k).2≤_;omega⟩
def yr (k_:Int→α) (a:Rows) (oL:Int→Int→α) (rN i:Int):α:=
 let z0:Int:=nS ((nS (rN+1))+1)
 let z1:Int:=rM (rR (nth a (Int.toNat i)) 2) z0
 bif decide (i<len a) then
  bif Ec true (idx i a) then
   bif (rI (nth a (Int.toNat i)) 0) != rN then k_ (-1)
   else bif Ec true (idx i a) then
     bif (rI (nth a (Int.toNat i)) 1) != (nS (rN+1)) then k_ (-1)
     else bif Ec (Ec true (idx i a)) (Qk sE 1 (rR (nth a (Int.toNat i)) 2) z0) then
       bif decide (z1<0) then k_ (-1)
       else oL z1 (nS (i+1))
      else kd
    else kd
  else kd
 else k_ rN
def yq (k_:Int→α) (N:Nat) (a:Rows) (m_:Nat):Int→Int→α:=
 Nat.rec (motive:=fun _=>Int→Int→α) (fun _ _=>kd) (fun _ oL=>yr kd k_ a oL) m_
theorem Tb (k_:Int→α) (N:Nat) (a:Rows) (m_:Nat):yq kd k_ N a (m_+1)=yr kd k_ a (yq kd k_ N a m_):=rfl
def QJ {α:Type} (kd:α) (k_:Int→α) (l0:Int→Int→α) (a:Rows) (k:Int):α:=
 l0 k 0
def Y5 (k_:Int→α) (N:Nat) (a:Rows) (k:Int):α:=QJ kd k_ (yq kd k_ N a N) a k
def neY (a:Rows) (k:Int):Bool:=same a (R2 sX a k).1 && yE sX Sd a k
def X3 (a:Rows) (k:Int):Int:=(R2 sX a k).2
theorem nlq (k_:Int→α) (a:Rows) (k:Int) (qV:G3 (.sl [.i,.i,.sl [.i]]) (.sl a)) (aJ:neY a k=true):∃N,Y5 kd k_ N a k=k_ (X3 a k):=by
 obtain⟨hl,hw⟩:=oS qV
 simp only[neY,Bool.and_eq_true] at aJ
 refine⟨a.length+1, ?_⟩
 unfold Y5 QJ X3
 refine nuz a k sX Sd (yq kd k_ (a.length+1) a) k_ aJ.2 (sA aJ.1) ?_ ?_
 ·intro n i k h hn hg
  rw[Tb]
  have H3:OZ 1 (rR (nth a i) 2) (k+1+1)=true:=hg
  obtain⟨g1,g2,g3⟩:=Vk H3
  have e:rR (nth a i) 2=vr sE 1 (rR (nth a i) 2).length (k+1+1):=congrArg (fun r=>rR r 2) hn
  have hh:Qk sE 1 (rR (nth a i) 2) (k+1+1)=true:=by
   simp only[Qk,Bool.and_eq_true]
   exact⟨by rw[←e];exact qu _,H3⟩
  have r0:rI (nth a i) 0=k:=congrArg (fun r=>rI r 0) hn
  have r1:rI (nth a i) 1=k+1:=congrArg (fun r=>rI r 1) hn
  have w0:nS (k+1)=k+1:=nJ (by omega) (by omega)
  have w1:nS (k+1+1)=k+1+1:=nJ (by omega) (by omega)
  have hz:¬k+1+1+1*((rR (nth a i) 2).length:Int)<0:=by omega
  simp only[yr,pL h,n9 h,oE h hl,Int.toNat_natCast,ng,nv,cond_true,hh,rM,hz,w0,w1,r0,r1,bne_self_eq_false,beq_self_eq_true,Bool.not_true,decide_false,cond_false,sX]
 ·intro n k
  rw[Tb]
  simp only[yr,nX,cond_false]
theorem nwg {a:Rows} (h:PX a=true) {k:Int} (h0:0≤k) (h1:k≤600000000000000):yE sX Sd a k=true∧neY (R2 sX a k).1 k=true∧(R2 sX (R2 sX a k).1 k).2=(R2 sX a k).2∧k≤(R2 sX a k).2∧(R2 sX a k).2≤k+281475110928384:=by
 obtain⟨h2,h3,h4⟩:=no1 h h0 h1
 have hl:∀r k,(rR (sX r k).1 2).length=(rR r 2).length:=fun r k=>qO sE 1 _ _
 have hf:∀r k,sX (sX r k).1 k=sX r k:=by
  intro r k
  have e:=hl r k
  unfold sX at e ⊢
  simp only[e]
 have hg:∀r k,Sd (sX r k).1 k=Sd r k:=by
  intro r k
  simp only[Sd,OZ,sm,hl]
 obtain⟨t1,t2⟩:=nmh hf hg a k
 refine⟨h2, ?_,by rw[t1],h3,h4⟩
 simp only[neY,t1,t2,h2,qu,Bool.and_self]
def Uh {α:Type} (k_:Bool→α) (n low high:Int):α:=
 k_ (bif decide (low≤n) then decide (n≤high) else false)
def nj (n low high:Int):Bool:=Uh id n low high
theorem nc6 {α:Type} (k_:Bool→α) (n low high:Int):Uh k_ n low high=k_ (nj n low high):=by
 rfl
def zm (k_:Bool→α) (x:Rows) (oA xR:Int) (wz:Rows) (oL:Int→α) (oO:Int):α:=
 let z0:Bool:= !(nj (rI (nth x (Int.toNat oO)) 0) 0 4095)
 bif decide (oO<oA) then
  bif Ec true (idx oO x) then
   bif LV z0 true (LV (decide (0<oO)) (Ec true (idx (nS (oO - 1)) wz)) true) then
    bif bif z0 then true else bif decide (0<oO) then decide (rI (nth x (Int.toNat oO)) 0≤rI (nth wz (Int.toNat (nS (oO - 1)))) 0) else false then k_ false
    else oL (nS (oO+1))
   else kd
  else kd
 else k_ (bif nj xR 0 281474976710654 then decide (len wz≤8) else false)
def zl (k_:Bool→α) (N:Nat) (x:Rows) (oA xR:Int) (wz:Rows) (m_:Nat):Int→α:=
 Nat.rec (motive:=fun _=>Int→α) (fun _=>kd) (fun _ oL=>zm kd k_ x oA xR wz oL) m_
theorem TZ (k_:Bool→α) (N:Nat) (x:Rows) (oA xR:Int) (wz:Rows) (m_:Nat):zl kd k_ N x oA xR wz (m_+1)=zm kd k_ x oA xR wz (zl kd k_ N x oA xR wz m_):=rfl
def Sg {α:Type} (kd:α) (k_:Bool→α) (l0:Rows→Int→Int→Rows→Int→α) (f:nB):α:=
 l0 f.pd (len f.pd) f.Qj f.pd 0
def naE (k_:Bool→α) (N:Nat) (f:nB):α:=Sg kd k_ (fun x oA xR wz=>zl kd k_ N x oA xR wz N) f
def vL (f:nB):Bool:=bif rL (fun i r=>bif !(nj (rI r 0) 0 4095) then true else bif decide ((0:Int)<(i:Int)) then decide (rI r 0≤rI (nth f.pd (Int.toNat (nS ((i:Int) - 1)))) 0) else false) f.pd 0 then false else bif nj f.Qj 0 281474976710654 then decide (len f.pd≤8) else false
theorem nnn (k_:Bool→α) (f:nB) (h_f:ka nB.ct f.enc):∃N,naE kd k_ N f=k_ (vL f):=by
 obtain⟨hl,_⟩:=oS (nB.nsd h_f)
 refine⟨f.pd.length+1, ?_⟩
 unfold naE Sg
 refine (sJ f.pd (zl kd k_ (f.pd.length+1) f.pd (len f.pd) f.Qj f.pd) (fun i r c=>bif bif !(nj (rI r 0) 0 4095) then true else bif decide ((0:Int)<(i:Int)) then decide (rI r 0≤rI (nth f.pd (Int.toNat (nS ((i:Int) - 1)))) 0) else false then k_ false else c) (k_ (bif nj f.Qj 0 281474976710654 then decide (len f.pd≤8) else false)) ?_ ?_).trans ?_
 ·intro n i h
  have hp:decide ((0:Int)<(i:Int))=true→idx (nS ((i:Int) - 1)) f.pd=true:=by
   intro h0
   have h0:=of_decide_eq_true h0
   rw[nJ (by omega) (by omega),show (i:Int) - 1=((i - 1:Nat):Int) by omega]
   exact n9 (by omega)
  rw[TZ]
  simp only[zm,pL h,n9 h,oE h hl,Int.toNat_natCast,ng,nv,cond_true]
  exact nv6 (nd1 (fun _=>rfl) (fun _=>nd1 (fun h0=>hp h0) (fun _=>rfl)))
 ·intro n
  rw[TZ]
  simp only[zm,nX,cond_false]
 ·refine (zk (fun i r=>bif !(nj (rI r 0) 0 4095) then true else bif decide ((0:Int)<(i:Int)) then decide (rI r 0≤rI (nth f.pd (Int.toNat (nS ((i:Int) - 1)))) 0) else false) _ _ f.pd 0).trans ?_
  exact J5 rfl rfl
def zX (k_:Bool→α) (xR:Int) (wz:Rows) (oL:Int→α) (k:Int):α:=
 let z0:Bool:= !(nj (rI (nth wz (Int.toNat k)) 0) 0 4095)
 bif decide (k<len wz) then
  bif LV z0 (Ec true (idx k wz)) (LV (decide (0<k)) (Ec (Ec (Ec true (idx k wz)) (idx k wz)) (idx (nS (k - 1)) wz)) (Ec true (idx k wz))) then
   bif bif z0 then true else bif decide (0<k) then decide (rI (nth wz (Int.toNat k)) 0≤rI (nth wz (Int.toNat (nS (k - 1)))) 0) else false then k_ false
   else oL (nS (k+1))
  else kd
 else k_ (bif nj xR 0 281474976710654 then decide (len wz≤8) else false)
def zW (k_:Bool→α) (N:Nat) (xR:Int) (wz:Rows) (m_:Nat):Int→α:=
 Nat.rec (motive:=fun _=>Int→α) (fun _=>kd) (fun _ oL=>zX kd k_ xR wz oL) m_
theorem Vr (k_:Bool→α) (N:Nat) (xR:Int) (wz:Rows) (m_:Nat):zW kd k_ N xR wz (m_+1)=zX kd k_ xR wz (zW kd k_ N xR wz m_):=rfl
def SD {α:Type} (kd:α) (k_:Bool→α) (l0:Int→Rows→Int→α) (f:nB):α:=
 l0 f.Qj f.pd 0
def nb_ (k_:Bool→α) (N:Nat) (f:nB):α:=SD kd k_ (fun xR wz=>zW kd k_ N xR wz N) f
theorem no_ (k_:Bool→α) (f:nB) (h_f:ka nB.ct f.enc):∃N,nb_ kd k_ N f=k_ (vL f):=by
 obtain⟨hl,_⟩:=oS (nB.nsd h_f)
 refine⟨f.pd.length+1, ?_⟩
 unfold nb_ SD
 refine (sJ f.pd (zW kd k_ (f.pd.length+1) f.Qj f.pd) (fun i r c=>bif bif !(nj (rI r 0) 0 4095) then true else bif decide ((0:Int)<(i:Int)) then decide (rI r 0≤rI (nth f.pd (Int.toNat (nS ((i:Int) - 1)))) 0) else false then k_ false else c) (k_ (bif nj f.Qj 0 281474976710654 then decide (len f.pd≤8) else false)) ?_ ?_).trans ?_
 ·intro n i h
  have hp:decide ((0:Int)<(i:Int))=true→idx (nS ((i:Int) - 1)) f.pd=true:=by
   intro h0
   have h0:=of_decide_eq_true h0
   rw[nJ (by omega) (by omega),show (i:Int) - 1=((i - 1:Nat):Int) by omega]
   exact n9 (by omega)
  rw[Vr]
  simp only[zX,pL h,n9 h,oE h hl,Int.toNat_natCast,ng,nv,cond_true]
  exact nv6 (nd1 (fun _=>rfl) (fun _=>nd1 (fun h0=>hp h0) (fun _=>rfl)))
 ·intro n
  rw[Vr]
  simp only[zX,nX,cond_false]
 ·refine (zk (fun i r=>bif !(nj (rI r 0) 0 4095) then true else bif decide ((0:Int)<(i:Int)) then decide (rI r 0≤rI (nth f.pd (Int.toNat (nS ((i:Int) - 1)))) 0) else false) _ _ f.pd 0).trans ?_
  exact J5 rfl rfl
def wR {α:Type} (k_:Bool→α) (g:nF):α:=
 bif bif !(nj g.ph 0 65535) then true else bif !(nj g.pg 0 65535) then true else decide (320<len g.Body) then k_ false
 else bif g.Kind==6 then k_ (bif nj g.Seq 0 4294967295 then bif nj g.Ack 0 4294967295 then bif nj g.Flags 0 31 then nj g.wL 0 65535 else false else false else false)
 else bif g.Kind==17 then k_ (bif g.Seq==0 then bif g.Ack==0 then bif g.Flags==0 then g.wL==0 else false else false else false)
 else k_ false
def tJ (g:nF):Bool:=wR id g
theorem nkO {α:Type} (k_:Bool→α) (g:nF):wR k_ g=k_ (tJ g):=by
 exact J5 rfl (J5 rfl (J5 rfl rfl))
def Z1 {α:Type} (k_:Bool→α) (g:nF):α:=
 bif bif !(nj g.ph 0 65535) then true else bif !(nj g.pg 0 65535) then true else decide (320<len g.Body) then k_ false
 else bif g.Kind==17 then k_ (bif g.Seq==0 then bif g.Ack==0 then bif g.Flags==0 then g.wL==0 else false else false else false)
 else k_ (bif g.Kind==6 then bif nj g.Seq 0 4294967295 then bif nj g.Ack 0 4294967295 then bif nj g.Flags 0 31 then nj g.wL 0 65535 else false else false else false else false)
theorem nmB {α:Type} (k_:Bool→α) (g:nF):Z1 k_ g=k_ (tJ g):=by
 unfold Z1 tJ wR
 refine J5 rfl ?_
 by_cases h6:g.Kind=6
 ·have h17:(g.Kind==17)=false:=by rw[h6];rfl
  have h6':(g.Kind==6)=true:=by rw[h6];rfl
  rw[h17,h6']
  rfl
 ·have h6':(g.Kind==6)=false:=by simpa using h6
  rw[h6']
  cases (g.Kind==17)<;>rfl
def Yu {α:Type} (k_:Bool→α) (flags:Int):α:=
 k_ (bif (bits .and .i64 flags 16) != 0 then (bits .andNot .i64 flags 25)==0 else false)
def TI (flags:Int):Bool:=Yu id flags
theorem nk1 {α:Type} (k_:Bool→α) (flags:Int):Yu k_ flags=k_ (TI flags):=by
 rfl
def PA {α:Type} (k_:Bool→α) (p:nQ):α:=
 k_ (bif nj p.O2 0 281474976710655 then bif nj p.O5 0 281474976710655 then bif nj p.vt (-1) 4095 then bif nj p.Tos 0 255 then bif nj p.Ttl 0 255 then bif nj p.Id 0 65535 then bif nj p.rk 0 4294967295 then bif nj p.rK 0 4294967295 then bif tJ p.Ow then bif decide (len p.Ow.Body≤128) then true else bif p.Ow.Kind==6 then TI p.Ow.Flags else false else false else false else false else false else false else false else false else false else false)
def NP (p:nQ):Bool:=PA id p
theorem nqe {α:Type} (k_:Bool→α) (p:nQ):PA k_ p=k_ (NP p):=by
 rfl
def neh {α:Type} (k_:Bool→α) (p:nQ):α:=
 bif bif !(nj p.O2 0 281474976710655) then true else bif !(nj p.O5 0 281474976710655) then true else bif !(nj p.vt (-1) 4095) then true else bif !(nj p.Tos 0 255) then true else bif !(nj p.Ttl 0 255) then true else bif !(nj p.Id 0 65535) then true else bif !(nj p.rk 0 4294967295) then true else bif !(nj p.rK 0 4294967295) then true else !(tJ p.Ow) then k_ false
 else k_ (bif bif p.Ow.Kind==6 then (bits .andNot .i64 p.Ow.Flags 9)==16 else false then true else decide (len p.Ow.Body≤128))
theorem nug {f:Int} (h:nj f 0 31=true):((bits .andNot .i64 f 9)==16)=TI f:=by
 have key:∀n:Fin 32,((bits .andNot .i64 ((n.val:Nat):Int) 9)==16)=TI ((n.val:Nat):Int):=by decide+kernel
 have h0:0≤f∧f≤31:=by
  unfold nj Uh at h
  by_cases h1:0≤f
  ·by_cases h2:f≤31
   ·exact⟨h1,h2⟩
   ·simp [h1,h2] at h
  ·simp [h1] at h
 have:=key ⟨f.toNat,by omega⟩
 simp only at this
 rw[show ((f.toNat:Nat):Int)=f by omega] at this
 exact this
theorem nvU {g:nF} (h:tJ g=true) (h6:(g.Kind==6)=true):nj g.Flags 0 31=true:=by
 unfold tJ wR at h
 rw[h6] at h
 cases hb:nj g.Flags 0 31
 ·rw[hb] at h
  revert h
  cases (bif !(nj g.ph 0 65535) then true else bif !(nj g.pg 0 65535) then true else decide (320<len g.Body))<;>cases nj g.Seq 0 4294967295<;>cases nj g.Ack 0 4294967295<;>simp
 ·rfl
theorem nrH {α:Type} (k_:Bool→α) (p:nQ):neh k_ p=k_ (NP p):=by
 unfold neh NP PA
 cases nj p.O2 0 281474976710655
 ·rfl
 cases nj p.O5 0 281474976710655
 ·rfl
 cases nj p.vt (-1) 4095
 ·rfl
 cases nj p.Tos 0 255
 ·rfl
 cases nj p.Ttl 0 255
 ·rfl
 cases nj p.Id 0 65535
 ·rfl
 cases nj p.rk 0 4294967295
 ·rfl
 cases nj p.rK 0 4294967295
 ·rfl
 cases hs:tJ p.Ow
 ·rfl
 cases h6:(p.Ow.Kind==6)
 ·cases decide (len p.Ow.Body≤128)<;>rfl
 ·rw[nug (nvU hs h6)]
  cases TI p.Ow.Flags<;>cases decide (len p.Ow.Body≤128)<;>rfl
def wE (k_:Int→α) (domain pr:Int) (nc:Rows) (oA:Int) (oL:Int→α) (oO:Int):α:=
 bif decide (oO<oA) then
  bif Ec true (idx oO nc) then
   bif bif (rI (nth nc (Int.toNat oO)) 0)==domain then (rI (nth nc (Int.toNat oO)) 1)==pr else false then k_ oO
   else oL (nS (oO+1))
  else kd
 else k_ (-1)
def wD (k_:Int→α) (N:Nat) (domain pr:Int) (nc:Rows) (oA:Int) (m_:Nat):Int→α:=
 Nat.rec (motive:=fun _=>Int→α) (fun _=>kd) (fun _ oL=>wE kd k_ domain pr nc oA oL) m_
theorem Qm (k_:Int→α) (N:Nat) (domain pr:Int) (nc:Rows) (oA:Int) (m_:Nat):wD kd k_ N domain pr nc oA (m_+1)=wE kd k_ domain pr nc oA (wD kd k_ N domain pr nc oA m_):=rfl
def OB {α:Type} (kd:α) (k_:Int→α) (l0:Int→Int→α) (nc:Rows) (domain pr:Int):α:=
 l0 (len nc) 0
def Ur (k_:Int→α) (N:Nat) (nc:Rows) (domain pr:Int):α:=OB kd k_ (fun oA=>wD kd k_ N domain pr nc oA N) nc domain pr
def tT (nc:Rows) (domain pr:Int):Int:=findIdx (fun _ r=>bif (rI r 0)==domain then (rI r 1)==pr else false) nc 0
theorem ng8 (k_:Int→α) (nc:Rows) (domain pr:Int) (rF:G3 (.sl [.i,.i,.i,.bool]) (.sl nc)):∃N,Ur kd k_ N nc domain pr=k_ (tT nc domain pr):=by
 obtain⟨hl,_⟩:=oS rF
 refine⟨nc.length+1, ?_⟩
 unfold Ur OB
 refine (sJ nc (wD kd k_ (nc.length+1) domain pr nc (len nc)) (fun i r c=>bif bif (rI r 0)==domain then (rI r 1)==pr else false then k_ (i:Int) else c) (k_ (-1)) ?_ ?_).trans ?_
 ·intro n i h
  rw[Qm]
  simp only[wE,pL h,n9 h,oE h hl,Int.toNat_natCast,ng,nv,cond_true]
 ·intro n
  rw[Qm]
  simp only[wE,nX,cond_false]
 ·exact naf (fun i r=>bif (rI r 0)==domain then (rI r 1)==pr else false) k_ nc 0
def xd (k_:Bool→α) (nc x:Rows) (oA:Int) (oL:Int→α) (oO:Int):α:=
 bif decide (oO<oA) then
  bif Ec true (idx oO x) then
   bif bif !(nj (rI (nth x (Int.toNat oO)) 0) 0 7) then true else bif !(nj (rI (nth x (Int.toNat oO)) 1) 0 1023) then true else bif !(nj (rI (nth x (Int.toNat oO)) 2) 0 63) then true else (tT nc (rI (nth x (Int.toNat oO)) 0) (rI (nth x (Int.toNat oO)) 1)) != oO then k_ false
   else oL (nS (oO+1))
  else kd
 else k_ (decide (len nc≤96))
def xc (k_:Bool→α) (N:Nat) (nc x:Rows) (oA:Int) (m_:Nat):Int→α:=
 Nat.rec (motive:=fun _=>Int→α) (fun _=>kd) (fun _ oL=>xd kd k_ nc x oA oL) m_
theorem RR (k_:Bool→α) (N:Nat) (nc x:Rows) (oA:Int) (m_:Nat):xc kd k_ N nc x oA (m_+1)=xd kd k_ nc x oA (xc kd k_ N nc x oA m_):=rfl
def Pu {α:Type} (kd:α) (k_:Bool→α) (l0:Rows→Int→Int→α) (nc:Rows):α:=
 l0 nc (len nc) 0
def V8 (k_:Bool→α) (N:Nat) (nc:Rows):α:=Pu kd k_ (fun x oA=>xc kd k_ N nc x oA N) nc
def xq (r:List DC):Bool:=bif !(nj (rI r 0) 0 7) then true else bif !(nj (rI r 1) 0 1023) then true else !(nj (rI r 2) 0 63)
def pO (nc:Rows):Bool:=bif decide (96<len nc) then false else bif rL (fun i r=>bif xq r then true else yN (fun j=>bif (rI (nth nc j) 0)==(rI r 0) then (rI (nth nc j) 1)==(rI r 1) else false) i 0) nc 0 then false else true
theorem niy (k_:Bool→α) (nc:Rows) (rF:G3 (.sl [.i,.i,.i,.bool]) (.sl nc)):∃N,V8 kd k_ N nc=k_ (pO nc):=by
 obtain⟨hl,_⟩:=oS rF
 refine⟨nc.length+1, ?_⟩
 unfold V8 Pu
 refine (sJ nc (xc kd k_ (nc.length+1) nc nc (len nc)) (fun i r c=>bif (bif xq r then true else (tT nc (rI r 0) (rI r 1)) != (i:Int)) then k_ false else c) (k_ (decide (len nc≤96))) ?_ ?_).trans ?_
 ·intro n i h
  rw[RR]
  simp only[xd,pL h,n9 h,oE h hl,Int.toNat_natCast,ng,nv,cond_true]
  unfold xq
  cases nj (rI (nth nc i) 0) 0 7<;>cases nj (rI (nth nc i) 1) 0 1023<;>cases nj (rI (nth nc i) 2) 0 63<;>rfl
 ·intro n
  rw[RR]
  simp only[xd,nX,cond_false]
 ·refine (zk (fun i r=>bif xq r then true else (tT nc (rI r 0) (rI r 1)) != (i:Int)) _ _ nc 0).trans ?_
  have e:rL (fun i r=>bif xq r then true else (tT nc (rI r 0) (rI r 1)) != (i:Int)) nc 0=rL (fun i r=>bif xq r then true else yN (fun j=>bif (rI (nth nc j) 0)==(rI r 0) then (rI (nth nc j) 1)==(rI r 1) else false) i 0) nc 0:=by
   apply nik
   intro i hi
   rw[Nat.zero_add]
   have hf:=ngK (fun _ r=>bif (rI r 0)==(rI (nth nc i) 0) then (rI r 1)==(rI (nth nc i) 1) else false) nc 0 i hi (by simp)
   rw[Nat.zero_add] at hf
   have hf:((tT nc (rI (nth nc i) 0) (rI (nth nc i) 1)) != (i:Int))=_:=hf
   rw[hf]
  rw[e]
  unfold pO
  by_cases h9:96<len nc
  ·simp only[decide_eq_true h9,cond_true,show decide (len nc≤96)=false from decide_eq_false (by omega)]
   cases rL (fun i r=>bif xq r then true else yN (fun j=>bif (rI (nth nc j) 0)==(rI r 0) then (rI (nth nc j) 1)==(rI r 1) else false) i 0) nc 0<;>rfl
  ·simp only[decide_eq_false h9,cond_false,show decide (len nc≤96)=true from decide_eq_true (by omega)]
   exact J5 rfl rfl
def vi (k_:Bool→α) (l1:Int→Int→Int→Int→α) (nc:Rows) (oL:Int→α) (k:Int):α:=
 bif decide (k<len nc) then
  bif Ec true (idx k nc) then
   bif bif !(nj (rI (nth nc (Int.toNat k)) 0) 0 7) then true else bif !(nj (rI (nth nc (Int.toNat k)) 1) 0 1023) then true else !(nj (rI (nth nc (Int.toNat k)) 2) 0 63) then k_ false
   else l1 k (rI (nth nc (Int.toNat k)) 0) (rI (nth nc (Int.toNat k)) 1) 0
  else kd
 else k_ true
def vj (k_:Bool→α) (oL:Int→α) (nc:Rows) (k x oA:Int) (ih1:Int→α) (i:Int):α:=
 let z0:Bool:=(rI (nth nc (Int.toNat i)) 0)==x
 bif decide (i<k) then
  bif LV z0 (Ec (Ec true (idx i nc)) (idx i nc)) (Ec true (idx i nc)) then
   bif bif z0 then (rI (nth nc (Int.toNat i)) 1)==oA else false then k_ false
   else ih1 (nS (i+1))
  else kd
 else oL (nS (k+1))
def rJ (k_:Bool→α) (N:Nat) (oL:Int→α) (nc:Rows) (k x oA:Int) (m_:Nat):Int→α:=
 Nat.rec (motive:=fun _=>Int→α) (fun _=>kd) (fun _ ih1=>vj kd k_ oL nc k x oA ih1) m_
theorem R5 (k_:Bool→α) (N:Nat) (oL:Int→α) (nc:Rows) (k x oA:Int) (m_:Nat) (i:Int):rJ kd k_ N oL nc k x oA (m_+1) i=vj kd k_ oL nc k x oA (rJ kd k_ N oL nc k x oA m_) i:=rfl
def t6 (k_:Bool→α) (N:Nat) (nc:Rows) (m_:Nat):Int→α:=
 Nat.rec (motive:=fun _=>Int→α) (fun _=>kd) (fun _ oL=>vi kd k_ (fun k x oA=>rJ kd k_ N oL nc k x oA N) nc oL) m_
theorem R4 (k_:Bool→α) (N:Nat) (nc:Rows) (m_:Nat) (k:Int):t6 kd k_ N nc (m_+1) k=vi kd k_ (fun k x oA=>rJ kd k_ N (t6 kd k_ N nc m_) nc k x oA N) nc (t6 kd k_ N nc m_) k:=rfl
def W2 {α:Type} (kd:α) (k_:Bool→α) (l0:Int→α) (nc:Rows):α:=
 bif decide (96<len nc) then k_ false
 else l0 0
def Qc (k_:Bool→α) (N:Nat) (nc:Rows):α:=W2 kd k_ (t6 kd k_ N nc N) nc
theorem nkb (k_:Bool→α) (nc:Rows) (rF:G3 (.sl [.i,.i,.i,.bool]) (.sl nc)):∃N,Qc kd k_ N nc=k_ (pO nc):=by
 obtain⟨hl,_⟩:=oS rF
 refine⟨nc.length+1, ?_⟩
 unfold Qc W2 pO
 refine J5 rfl ?_
 have inner:∀(ih:Int→α) (i:Nat),i<nc.length→rJ kd k_ (nc.length+1) ih nc (i:Int) (rI (nth nc i) 0) (rI (nth nc i) 1) (nc.length+1) 0=bif yN (fun j=>bif (rI (nth nc j) 0)==(rI (nth nc i) 0) then (rI (nth nc j) 1)==(rI (nth nc i) 1) else false) i 0 then k_ false else ih ((i:Int)+1):=by
  intro ih i hi
  have hw:nS ((i:Int)+1)=(i:Int)+1:=oE hi hl
  have:=njX (σ:=Unit) i (fun n j _=>rJ kd k_ (nc.length+1) ih nc (i:Int) (rI (nth nc i) 0) (rI (nth nc i) 1) n j) (fun j c s=>bif (bif (rI (nth nc j) 0)==(rI (nth nc i) 0) then (rI (nth nc j) 1)==(rI (nth nc i) 1) else false) then k_ false else c s) (fun _=>ih ((i:Int)+1)) ?_ ?_ (nc.length+1) () (by omega)
  ·exact this.trans (npG (fun j=>bif (rI (nth nc j) 0)==(rI (nth nc i) 0) then (rI (nth nc j) 1)==(rI (nth nc i) 1) else false) (k_ false) (ih ((i:Int)+1)) i 0)
  ·intro n j _ hj
   show rJ kd k_ (nc.length+1) ih nc (i:Int) (rI (nth nc i) 0) (rI (nth nc i) 1) (n+1) (j:Int)=_
   rw[R5]
   have h1:decide ((j:Int)<(i:Int))=true:=decide_eq_true (by omega)
   have h2:idx (j:Int) nc=true:=n9 (by omega)
   have h3:nS ((j:Int)+1)=(j:Int)+1:=nJ (by omega) (by omega)
   simp only[vj,h1,h2,h3,Int.toNat_natCast,ng,nv,PV,cond_true]
  ·intro n _
   show rJ kd k_ (nc.length+1) ih nc (i:Int) (rI (nth nc i) 0) (rI (nth nc i) 1) (n+1) (i:Int)=_
   rw[R5]
   have h1:decide ((i:Int)<(i:Int))=false:=decide_eq_false (by omega)
   simp only[vj,h1,hw,cond_false]
 refine (xp nc (t6 kd k_ (nc.length+1) nc) (fun i r c=>bif (bif xq r then true else yN (fun j=>bif (rI (nth nc j) 0)==(rI r 0) then (rI (nth nc j) 1)==(rI r 1) else false) i 0) then k_ false else c) (k_ true) ?_ ?_ (nc.length+1) (by omega)).trans ?_
 ·intro n i h
  rw[R4]
  simp only[vi,pL h,n9 h,Int.toNat_natCast,ng,nv,cond_true,PV,inner _ i h]
  show (bif xq (nth nc i) then k_ false else _)=_
  cases xq (nth nc i)<;>rfl
 ·intro n
  rw[R4]
  simp only[vi,nX,cond_false]
 ·refine (zk (fun i r=>bif xq r then true else yN (fun j=>bif (rI (nth nc j) 0)==(rI r 0) then (rI (nth nc j) 1)==(rI r 1) else false) i 0) _ _ nc 0).trans ?_
  exact J5 rfl rfl
def Uo (k_:Rows→α) (l:Rows):α:=
 bif Ec true (qS 16 [] l) then
  k_ l
 else kd
theorem ng7 (k_:Rows→α) (l:Rows) (aJ:sm l=true):Uo kd k_ l=k_ (oB l):=by
 unfold Uo
 rw[rj aJ (show 16≤8388608 by omega)]
 rfl
def Wh (k_:na→α) (m:na):α:=
 bif Ec true (sm m.nK) then
  k_ (⟨oB m.nK⟩:na)
 else kd
def s_ (m:na):Bool:=sm m.nK
theorem niK (k_:na→α) (m:na) (aJ:s_ m=true):Wh kd k_ m=k_ (oB m):=by
 have h:sm m.nK=true:=aJ
 unfold Wh
 simp only[h,ng,cond_true]
 rfl
def zu (k_:Bool→α) (x:Rows) (oA:Int) (tg:Rows) (oL:Int→α) (oO:Int):α:=
 bif decide (oO<oA) then
  bif Ec true (idx oO x) then
   bif (len (rS (nth x (Int.toNat oO)) 0)) != 128 then k_ false
   else oL (nS (oO+1))
  else kd
 else k_ (decide (len tg≤64))
def zt (k_:Bool→α) (N:Nat) (x:Rows) (oA:Int) (tg:Rows) (m_:Nat):Int→α:=
 Nat.rec (motive:=fun _=>Int→α) (fun _=>kd) (fun _ oL=>zu kd k_ x oA tg oL) m_
theorem T7 (k_:Bool→α) (N:Nat) (x:Rows) (oA:Int) (tg:Rows) (m_:Nat):zt kd k_ N x oA tg (m_+1)=zu kd k_ x oA tg (zt kd k_ N x oA tg m_):=rfl
def Sj {α:Type} (kd:α) (k_:Bool→α) (l0:Rows→Int→Rows→Int→α) (m:na):α:=
 l0 m.nK (len m.nK) m.nK 0
def naQ (k_:Bool→α) (N:Nat) (m:na):α:=Sj kd k_ (fun x oA tg=>zt kd k_ N x oA tg N) m
def qM (m:na):Bool:=bif rL (fun _ r=>(len (rS r 0)) != 128) m.nK 0 then false else decide (len m.nK≤64)
theorem nnu (k_:Bool→α) (m:na) (TS:ka na.ct m.enc):∃N,naQ kd k_ N m=k_ (qM m):=by
 obtain⟨hl,_⟩:=oS (na.w9 TS)
 refine⟨m.nK.length+1, ?_⟩
 unfold naQ Sj qM
 refine (sJ m.nK (zt kd k_ (m.nK.length+1) m.nK (len m.nK) m.nK) (fun i r c=>bif (len (rS r 0)) != 128 then k_ false else c) (k_ (decide (len m.nK≤64))) ?_ ?_).trans ?_
 ·intro n i h
  rw[T7]
  simp only[zu,pL h,n9 h,oE h hl,Int.toNat_natCast,ng,nv,cond_true]
 ·intro n
  rw[T7]
  simp only[zu,nX,cond_false]
 ·refine (zk (fun _ r=>(len (rS r 0)) != 128) _ _ m.nK 0).trans ?_
  exact J5 rfl rfl
def Nc (k_:Bool→α) (tg:Rows) (oL:Int→α) (k:Int):α:=
 bif decide (k<len tg) then
  bif Ec true (idx k tg) then
   bif (len (rS (nth tg (Int.toNat k)) 0)) != 128 then k_ false
   else oL (nS (k+1))
  else kd
 else k_ (decide (len tg≤64))
def Nb (k_:Bool→α) (N:Nat) (tg:Rows) (m_:Nat):Int→α:=
 Nat.rec (motive:=fun _=>Int→α) (fun _=>kd) (fun _ oL=>Nc kd k_ tg oL) m_
theorem Vt (k_:Bool→α) (N:Nat) (tg:Rows) (m_:Nat):Nb kd k_ N tg (m_+1)=Nc kd k_ tg (Nb kd k_ N tg m_):=rfl
def SG {α:Type} (kd:α) (k_:Bool→α) (l0:Rows→Int→α) (m:na):α:=
 l0 m.nK 0
def ncf (k_:Bool→α) (N:Nat) (m:na):α:=SG kd k_ (fun tg=>Nb kd k_ N tg N) m
theorem npg (k_:Bool→α) (m:na) (TS:ka na.ct m.enc):∃N,ncf kd k_ N m=k_ (qM m):=by
 obtain⟨hl,_⟩:=oS (na.w9 TS)
 refine⟨m.nK.length+1, ?_⟩
 unfold ncf SG qM
 refine (sJ m.nK (Nb kd k_ (m.nK.length+1) m.nK) (fun i r c=>bif (len (rS r 0)) != 128 then k_ false else c) (k_ (decide (len m.nK≤64))) ?_ ?_).trans ?_
 ·intro n i h
  rw[Vt]
  simp only[Nc,pL h,n9 h,oE h hl,Int.toNat_natCast,ng,nv,cond_true]
 ·intro n
  rw[Vt]
  simp only[Nc,nX,cond_false]
 ·refine (zk (fun _ r=>(len (rS r 0)) != 128) _ _ m.nK 0).trans ?_
  exact J5 rfl rfl
def Sr {α:Type} (k_:Bool→α) (n:Int):α:=
 k_ (bif n==2 then true else bif n==4 then true else bif n==8 then true else n==16)
def vg (n:Int):Bool:=Sr id n
theorem nbk {α:Type} (k_:Bool→α) (n:Int):Sr k_ n=k_ (vg n):=by
 rfl
def Yw {α:Type} (k_:Bool→α) (n:Int):α:=
 k_ (bif n==1 then true else bif n==2 then true else bif n==4 then true else bif n==8 then true else n==16)
def Z8 (n:Int):Bool:=Yw id n
theorem Yv {α:Type} (k_:Bool→α) (n:Int):Yw k_ n=k_ (Z8 n):=by
 rfl
def Nz (k_:Int→α) (x n:Int):α:=
 bif Ec true (!(n==0)) then
  k_ (bif decide (Int.tmod x n<0) then nS ((Int.tmod x n)+n) else Int.tmod x n)
 else kd
def zR (x n:Int):Bool:=Nz false (fun _=>true) x n
def XQ (x n:Int):Int:=(Nz none (fun r0=>some (r0)) x n).getD 0
theorem nsq (k_:Int→α) (x n:Int) (aJ:zR x n=true):Nz kd k_ x n=k_ (XQ x n):=by
 exact uj (K:=fun r:Int=>k_ r) (ov qt) aJ
def naX (k_:Int→α) (r:oc):α:=
 let z0:Int:=nS ((XQ r.sQ (nS (2*r.nI))) - (XQ r.Head (nS (2*r.nI))))
 bif !(vg r.nI) then k_ 0
 else bif Ec (Ec (Ec true (zR r.sQ (nS (2*r.nI)))) (zR r.Head (nS (2*r.nI)))) (zR z0 (nS (2*r.nI))) then
   k_ (XQ z0 (nS (2*r.nI)))
  else kd
theorem ncG (k:Nat) (hk:k≤62) (a:Int):bits .and .i64 a ((2 ^ k - 1:Nat):Int)=a % ((2 ^ k:Nat):Int):=by
 have hp:2 ^ k≤2 ^ 62:=Nat.pow_le_pow_right (by decide) hk
 have h62:(2:Nat) ^ 62=4611686018427387904:=by decide
 have hd:2 ^ k ∣ (18446744073709551616:Nat):=by
  rw[show (18446744073709551616:Nat)=2 ^ 64 by decide]
  exact Nat.pow_dvd_pow 2 (by omega)
 have hc:(BitVec.ofInt 64 ((2 ^ k - 1:Nat):Int)).toNat=2 ^ k - 1:=by
  rw[BitVec.ofInt_natCast,BitVec.toNat_ofNat]
  exact Nat.mod_eq_of_lt (by omega)
 have hn:(BitVec.ofInt 64 a &&& BitVec.ofInt 64 ((2 ^ k - 1:Nat):Int)).toNat=(a % 18446744073709551616).toNat % 2 ^ k:=by
  rw[BitVec.toNat_and,hc,Nat.and_two_pow_sub_one_eq_mod,BitVec.toNat_ofInt]
  rfl
 have cm:(a % 18446744073709551616).toNat % 2 ^ k<2 ^ k:=Nat.mod_lt _ (Nat.pos_of_ne_zero (by intro h;have:=Nat.two_pow_pos k;omega))
 have h63:(((BitVec.ofInt 64 a &&& BitVec.ofInt 64 ((2 ^ k - 1:Nat):Int)).toNat:Nat):Int)<2 ^ 63:=by
  rw[hn]
  have:(2:Int) ^ 63=9223372036854775808:=by decide
  rw[this]
  omega
 have e:bits .and .i64 a ((2 ^ k - 1:Nat):Int)=(((BitVec.ofInt 64 a &&& BitVec.ofInt 64 ((2 ^ k - 1:Nat):Int)).toNat:Nat):Int):=
  ntD (((BitVec.ofInt 64 a &&& BitVec.ofInt 64 ((2 ^ k - 1:Nat):Int)).toNat:Nat):Int) (Int.natCast_nonneg _) h63
 rw[e,hn,Int.natCast_emod,Int.toNat_of_nonneg (Int.emod_nonneg _ (by decide)),Int.emod_emod_of_dvd]
 exact Int.natCast_dvd_natCast.2 hd
theorem and_3 (a:Int):bits .and .i64 a 3=a % 4:=ncG 2 (by decide) a
theorem nv3 (a:Int):bits .and .i64 a 7=a % 8:=ncG 3 (by decide) a
theorem nv1 (a:Int):bits .and .i64 a 15=a % 16:=ncG 4 (by decide) a
theorem nv2 (a:Int):bits .and .i64 a 31=a % 32:=ncG 5 (by decide) a
theorem wY {n:Int} (h:vg n=true):n=2∨n=4∨n=8∨n=16:=by
 unfold vg Sr at h
 by_cases h2:n=2
 ·exact .inl h2
 by_cases h4:n=4
 ·exact .inr (.inl h4)
 by_cases h8:n=8
 ·exact .inr (.inr (.inl h8))
 by_cases h16:n=16
 ·exact .inr (.inr (.inr h16))
 simp [h2,h4,h8,h16] at h
theorem Vl {x n:Int} (hx: -9223372036854775808≤x) (Cj:x≤9223372036854775807) (h:0<n) (h':n≤1000000):zR x n=true∧XQ x n=x % n:=by
 have hn:(n==0)=false:=by simp;omega
 have e:XQ x n=bif decide (Int.tmod x n<0) then nS ((Int.tmod x n)+n) else Int.tmod x n:=by
  unfold XQ Nz
  rw[hn]
  rfl
 refine⟨by unfold zR Nz;rw[hn];rfl, ?_⟩
 rw[e]
 have h1:=Int.tmod_eq_emod (a:=x) (b:=n)
 have h2:=Int.emod_nonneg x (show n≠0 by omega)
 have h3:=Int.emod_lt_of_pos x h
 by_cases hl:Int.tmod x n<0
 ·rw[decide_eq_true hl,cond_true]
  split at h1
  ·omega
  ·have hna:((n.natAbs:Nat):Int)=n:=by omega
   rw[hna] at h1
   rw[nJ (by omega) (by omega)]
   omega
 ·rw[decide_eq_false hl,cond_false]
  split at h1
  ·omega
  ·have hna:((n.natAbs:Nat):Int)=n:=by omega
   rw[hna] at h1
   omega
def yS (r:oc):Int:=bif vg r.nI then (r.sQ - r.Head) % (2*r.nI) else 0
theorem nnw (k_:Int→α) (r:oc) (h_r:ka oc.ct r.enc):naX kd k_ r=k_ (yS r):=by
 have ht:=wy (oc.nwP h_r)
 have hh:=wy (oc.nwL h_r)
 unfold naX yS
 cases hs:vg r.nI
 ·rfl
 ·have h2:nS (2*r.nI)=2*r.nI∧0<2*r.nI∧2*r.nI≤32:=by
   rcases wY hs with h | h | h | h<;>rw[h]<;>exact⟨rfl,by decide,by decide⟩
  obtain⟨h2,h3,h4⟩:=h2
  obtain⟨a1,a2⟩:=Vl ht.1 ht.2 h3 (by omega)
  obtain⟨b1,b2⟩:=Vl hh.1 hh.2 h3 (by omega)
  have n1:=Int.emod_nonneg r.sQ (show 2*r.nI≠0 by omega)
  have n2:=Int.emod_lt_of_pos r.sQ h3
  have m1:=Int.emod_nonneg r.Head (show 2*r.nI≠0 by omega)
  have m2:=Int.emod_lt_of_pos r.Head h3
  have hw:nS (r.sQ % (2*r.nI) - r.Head % (2*r.nI))=r.sQ % (2*r.nI) - r.Head % (2*r.nI):=nJ (by omega) (by omega)
  obtain⟨c1,c2⟩:=Vl (x:=r.sQ % (2*r.nI) - r.Head % (2*r.nI)) (by omega) (by omega) h3 (by omega)
  simp only[h2,a1,a2,b1,b2,hw,c1,c2,ng,nv,cond_true,Bool.not_true,cond_false]
  rw[←Int.sub_emod]
def nci {α:Type} (k_:Int→α) (r:oc):α:=
 bif !(vg r.nI) then k_ 0
 else k_ (bits .and .i64 (nS (r.sQ - r.Head)) (nS ((nS (2*r.nI)) - 1)))
theorem npj {α:Type} (k_:Int→α) (r:oc):nci k_ r=k_ (yS r):=by
 unfold nci yS
 cases hs:vg r.nI
 ·rfl
 ·have key:bits .and .i64 (nS (r.sQ - r.Head)) (nS ((nS (2*r.nI)) - 1))=(r.sQ - r.Head) % (2*r.nI):=by
   rcases wY hs with h | h | h | h<;>rw[h]
   ·exact (and_3 _).trans (by rw[nmR];show _=(r.sQ - r.Head) % 4;omega)
   ·exact (nv3 _).trans (by rw[nmR];show _=(r.sQ - r.Head) % 8;omega)
   ·exact (nv1 _).trans (by rw[nmR];show _=(r.sQ - r.Head) % 16;omega)
   ·exact (nv2 _).trans (by rw[nmR];show _=(r.sQ - r.Head) % 32;omega)
  simp only[key,Bool.not_true,cond_false,cond_true]
def Xr {α:Type} (k_:Bool→α) (r:oc):α:=
 let z0:Int:=nS ((nS (2*r.nI)) - 1)
 k_ (bif nj r.oM 0 130944 then bif vg r.nI then bif nj r.Head 0 z0 then bif nj r.sQ 0 z0 then decide (yS r≤r.nI) else false else false else false else false)
def uc (r:oc):Bool:=Xr id r
theorem nfN {α:Type} (k_:Bool→α) (r:oc):Xr k_ r=k_ (uc r):=by
 rfl
theorem RM {r:oc} (h:uc r=true):2≤r.nI∧r.nI≤16:=by
 have hs:vg r.nI=true:=by
  cases hs:vg r.nI
  ·unfold uc Xr at h
   rw[hs] at h
   revert h
   cases nj r.oM 0 130944<;>simp
  ·rfl
 rcases wY hs with h | h | h | h<;>omega
def Py {α:Type} (k_:Bool→α) (q:nf):α:=
 k_ (bif nj q.oM 0 130944 then bif vg q.nI then nj q.Count 0 (nS ((nS (2*q.nI)) - 1)) else false else false)
def ri (q:nf):Bool:=Py id q
theorem ncV {α:Type} (k_:Bool→α) (q:nf):Py k_ q=k_ (ri q):=by
 rfl
def nqn {α:Type} (k_:Bool→α) (v:nA):α:=
 k_ (bif decide (1≤v.Count) then bif decide (v.yR≤v.Count) then true else decide (v.O3≤v.Time) else false)
def due (v:nA):Bool:=nqn id v
theorem nql {α:Type} (k_:Bool→α) (v:nA):nqn k_ v=k_ (due v):=by
 rfl
def na8 {α:Type} (k_:Bool→α) (v:nA):α:=
 let z0:Bool:=bif due v then v.Qs== !v.Qr else v.Qs==false
 bif bif !(nj v.yR 1 64) then true else bif !(nj v.O3 0 64) then true else bif !(nj v.Count 0 1000000) then true else !(nj v.Time 0 1000000) then k_ false
 else k_ (bif decide (0<v.Count) then z0 else bif v.Time==0 then z0 else false)
def tW (v:nA):Bool:=na8 id v
theorem na6 {α:Type} (k_:Bool→α) (v:nA):na8 k_ v=k_ (tW v):=by
 exact J5 rfl rfl
def nc2 {α:Type} (k_:Bool→α) (q:nk):α:=
 bif bif !(uc q.Ring) then true else bif !(ri q.Device) then true else bif !(ri q.Driver) then true else bif q.Device.oM != q.Driver.oM then true else bif q.Device.nI != q.Driver.nI then true else !(nj q.yb 0 1000000000000) then k_ false
 else bif !q.uJ then k_ (bif bif q.qU.om.O2==0 then bif q.qU.om.O5==0 then bif q.qU.om.vt==0 then bif q.qU.om.Tos==0 then bif q.qU.om.Id==0 then bif q.qU.om.Ttl==0 then bif q.qU.om.rk==0 then bif q.qU.om.rK==0 then bif bif q.qU.om.Ow.Kind==0 then bif q.qU.om.Ow.ph==0 then bif q.qU.om.Ow.pg==0 then bif q.qU.om.Ow.Seq==0 then bif q.qU.om.Ow.Ack==0 then bif q.qU.om.Ow.Flags==0 then bif q.qU.om.Ow.wL==0 then bif q.qU.om.Ow.Body==[] then true else false else false else false else false else false else false else false else false then true else false else false else false else false else false else false else false else false else false then bif q.qU.nI==0 then bif q.qU.Count==0 then true else false else false else false)
 else k_ (bif NP q.qU.om then bif nj q.qU.nI 0 320 then nj q.qU.Count 1 320 else false else false)
def zg (q:nk):Bool:=nc2 id q
theorem nm2 {α:Type} (k_:Bool→α) (q:nk):nc2 k_ q=k_ (zg q):=by
 exact J5 rfl (J5 rfl rfl)
def Xt {α:Type} (k_:Bool→α) (r:qj):α:=
 let z0:Bool:=bif !(nj r.rk 0 4294967295) then true else !(nj r.npF 0 32)
 let z1:Bool:=bif r.Action==1 then r.Queue==0 else false
 bif bif !(nj r.Priority 0 1000) then true else bif r.Kind != 0 then bif r.Kind != 6 then bif r.Kind != 17 then true else z0 else z0 else z0 then k_ false
 else bif bif decide (r.XW<0) then true else bif decide (r.ncF<r.XW) then true else bif decide (65535<r.ncF) then true else !(nj r.vt (-2) 4095) then k_ false
 else k_ (bif r.Action==0 then bif nj r.Queue 0 3 then true else z1 else z1)
def Qt (r:qj):Bool:=Xt id r
theorem nfO {α:Type} (k_:Bool→α) (r:qj):Xt k_ r=k_ (Qt r):=by
 exact J5 rfl (J5 rfl rfl)
def NX (k_:Bool→α) (nc x:Rows) (oA:Int) (oL:Int→α) (oO:Int):α:=
 bif decide (oO<oA) then
  bif Ec true (idx oO x) then
   bif !(Qt (qj.nd (nth x (Int.toNat oO)) 0)) then k_ false
   else oL (nS (oO+1))
  else kd
 else k_ (decide (len nc≤12))
def NW (k_:Bool→α) (N:Nat) (nc x:Rows) (oA:Int) (m_:Nat):Int→α:=
 Nat.rec (motive:=fun _=>Int→α) (fun _=>kd) (fun _ oL=>NX kd k_ nc x oA oL) m_
theorem Wd (k_:Bool→α) (N:Nat) (nc x:Rows) (oA:Int) (m_:Nat):NW kd k_ N nc x oA (m_+1)=NX kd k_ nc x oA (NW kd k_ N nc x oA m_):=rfl
def T8 {α:Type} (kd:α) (k_:Bool→α) (l0:Rows→Int→Int→α) (nc:Rows):α:=
 l0 nc (len nc) 0
def nc0 (k_:Bool→α) (N:Nat) (nc:Rows):α:=T8 kd k_ (fun x oA=>NW kd k_ N nc x oA N) nc
def Ty (nc:Rows):Bool:=bif nc.all (fun r=>Qt (qj.nd r 0)) then decide (len nc≤12) else false
theorem nqb (k_:Bool→α) (nc:Rows) (rF:G3 (.sl [.i,.i,.i,.i,.i,.i,.i,.i,.i]) (.sl nc)):∃N,nc0 kd k_ N nc=k_ (Ty nc):=by
 obtain⟨hl,_⟩:=oS rF
 refine⟨nc.length+1, ?_⟩
 unfold nc0 T8
 refine (sJ nc (NW kd k_ (nc.length+1) nc nc (len nc)) (fun i r c=>bif !(Qt (qj.nd r 0)) then k_ false else c) (k_ (decide (len nc≤12))) ?_ ?_).trans ?_
 ·intro n i h
  rw[Wd]
  simp only[NX,pL h,n9 h,oE h hl,Int.toNat_natCast,ng,nv,cond_true]
 ·intro n
  rw[Wd]
  simp only[NX,nX,cond_false]
 ·refine (Rp (fun r=>Qt (qj.nd r 0)) _ _ nc 0).trans ?_
  exact J5 rfl rfl
def Oj (k_:Bool→α) (nc:Rows) (oL:Int→α) (k:Int):α:=
 bif decide (k<len nc) then
  bif Ec true (idx k nc) then
   bif !(Qt (qj.nd (nth nc (Int.toNat k)) 0)) then k_ false
   else oL (nS (k+1))
  else kd
 else k_ (decide (len nc≤12))
def Oi (k_:Bool→α) (N:Nat) (nc:Rows) (m_:Nat):Int→α:=
 Nat.rec (motive:=fun _=>Int→α) (fun _=>kd) (fun _ oL=>Oj kd k_ nc oL) m_
theorem W7 (k_:Bool→α) (N:Nat) (nc:Rows) (m_:Nat):Oi kd k_ N nc (m_+1)=Oj kd k_ nc (Oi kd k_ N nc m_):=rfl
def Vu {α:Type} (kd:α) (k_:Bool→α) (l0:Int→α) (nc:Rows):α:=
 l0 0
def nee (k_:Bool→α) (N:Nat) (nc:Rows):α:=Vu kd k_ (Oi kd k_ N nc N) nc
theorem nrE (k_:Bool→α) (nc:Rows) (rF:G3 (.sl [.i,.i,.i,.i,.i,.i,.i,.i,.i]) (.sl nc)):∃N,nee kd k_ N nc=k_ (Ty nc):=by
 obtain⟨hl,_⟩:=oS rF
 refine⟨nc.length+1, ?_⟩
 unfold nee Vu
 refine (sJ nc (Oi kd k_ (nc.length+1) nc) (fun i r c=>bif !(Qt (qj.nd r 0)) then k_ false else c) (k_ (decide (len nc≤12))) ?_ ?_).trans ?_
 ·intro n i h
  rw[W7]
  simp only[Oj,pL h,n9 h,oE h hl,Int.toNat_natCast,ng,nv,cond_true]
 ·intro n
  rw[W7]
  simp only[Oj,nX,cond_false]
 ·refine (Rp (fun r=>Qt (qj.nd r 0)) _ _ nc 0).trans ?_
  exact J5 rfl rfl
def nbc (k_:Rows→α) (l:Rows):α:=
 bif Ec true (qS 8 [] l) then
  k_ l
 else kd
theorem nnL (k_:Rows→α) (l:Rows) (aJ:sm l=true):nbc kd k_ l=k_ (oB l):=by
 unfold nbc
 rw[rj aJ (show 8≤8388608 by omega)]
 rfl
def nbd (k_:nE→α) (p:nE):α:=
 bif Ec true (sm p.pN) then
  k_ (⟨p.oM,p.nI,p.Count,oB p.pN⟩:nE)
 else kd
def PW (p:nE):Bool:=sm p.pN
theorem nnM (k_:nE→α) (p:nE) (aJ:PW p=true):nbd kd k_ p=k_ (oB p):=by
 have h:sm p.pN=true:=aJ
 unfold nbd
 simp only[h,ng,cond_true]
 rfl
def neD (k_:nE→α) (p:nE):α:=
 bif Ec true (qS 8 [] p.pN) then
  k_ p
 else kd
theorem nrY (k_:nE→α) (p:nE) (aJ:PW p=true):neD kd k_ p=k_ (oB p):=by
 have h:sm p.pN=true:=aJ
 unfold neD
 rw[rj h (show 8≤8388608 by omega)]
 rfl
def Px (k_:Bool→α) (x:Rows) (oA p_3:Int) (oL:Int→Rows→α) (oO:Int) (seen:Rows):α:=
 let z0:Bool:= !(nj (rI (nth x (Int.toNat oO)) 0) 0 (nS (p_3 - 1)))
 let z1:Nat:=Int.toNat (rI (nth x (Int.toNat oO)) 0)
 let z2:Bool:=Ec (Ec true (idx (rI (nth x (Int.toNat oO)) 0) seen)) (inl z1 seen)
 let z3:List DC:=nth seen z1
 bif decide (oO<oA) then
  bif Ec true (idx oO x) then
   bif LV z0 true z2 then
    bif bif z0 then true else rB z3 0 then k_ false
    else bif z2 then
      oL (nS (oO+1)) (List.set seen z1 (bQ z3 0 [.bool true]))
     else kd
   else kd
  else kd
 else k_ true
def Pw (k_:Bool→α) (N:Nat) (x:Rows) (oA p_3:Int) (m_:Nat):Int→Rows→α:=
 Nat.rec (motive:=fun _=>Int→Rows→α) (fun _ _=>kd) (fun _ oL=>Px kd k_ x oA p_3 oL) m_
theorem Yi (k_:Bool→α) (N:Nat) (x:Rows) (oA p_3:Int) (m_:Nat):Pw kd k_ N x oA p_3 (m_+1)=Px kd k_ x oA p_3 (Pw kd k_ N x oA p_3 m_):=rfl
def Xq (k_:Bool→α) (l0:Rows→Int→Int→Int→Rows→α) (p:nE):α:=
 bif bif !(nj p.oM 0 130944) then true else bif !(nj p.nI 1 512) then true else !(nj p.Count 0 16) then k_ false
 else bif Ec true (wW 1 p.Count p.Count) then
   l0 p.pN (len p.pN) p.Count 0 (List.replicate (Int.toNat p.Count) ([.bool false]:List DC))
  else kd
def nfM (k_:Bool→α) (N:Nat) (p:nE):α:=Xq kd k_ (fun x oA p_3=>Pw kd k_ N x oA p_3 N) p
def Tu {α σ:Type} (P:List DC→σ→Bool) (f:List DC→σ→σ) (x:α) (fin:σ→α):Rows→σ→α
 | [],s=>fin s
 | r::rs,s=>bif P r s then x else Tu P f x fin rs (f r s)
theorem ngy {α σ:Type} (list:Rows) (L:Nat→Int→σ→α) (P:List DC→σ→Bool) (f:List DC→σ→σ) (x:α) (fin:σ→α) (I:Nat→σ→Prop) (hI:∀i s,i<list.length→I i s→P (nth list i) s=false→I (i+1) (f (nth list i) s))
  (hs:∀n i s,i<list.length→I i s→L (n+1) (i:Int) s=bif P (nth list i) s then x else L n ((i:Int)+1) (f (nth list i) s))
  (hz:∀n s,I list.length s→L (n+1) (list.length:Int) s=fin s):∀(m i:Nat) (s:σ),i+m=list.length→I i s→L (m+1) (i:Int) s=Tu P f x fin (list.drop i) s
 | 0,i,s,h,hi=>by
  have:i=list.length:=by omega
  subst this
  rw[hz 0 s hi,List.drop_length]
  rfl
 | m+1,i,s,h,hi=>by
  have cm:i<list.length:=by omega
  rw[hs (m+1) i s cm hi,List.drop_eq_getElem_cons cm]
  have hn:nth list i=list[i]:=by simp [nth,List.getD_eq_getElem?_getD,cm]
  show _=bif P list[i] s then x else Tu P f x fin (list.drop (i+1)) (f list[i] s)
  rw[←hn]
  cases hp:P (nth list i) s
  ·rw[cond_false,cond_false]
   have:=ngy list L P f x fin I hI hs hz m (i+1) (f (nth list i) s) (by omega) (hI i s cm hi hp)
   rw[←this]
   rfl
  ·rfl
theorem njY {α σ:Type} (list:Rows) (L:Nat→Int→σ→α) (P:List DC→σ→Bool) (f:List DC→σ→σ) (x:α) (fin:σ→α) (I:Nat→σ→Prop) (hI:∀i s,i<list.length→I i s→P (nth list i) s=false→I (i+1) (f (nth list i) s))
  (hs:∀n i s,i<list.length→I i s→L (n+1) (i:Int) s=bif P (nth list i) s then x else L n ((i:Int)+1) (f (nth list i) s))
  (hz:∀n s,I list.length s→L (n+1) (list.length:Int) s=fin s) (s:σ) (h:I 0 s):L (list.length+1) 0 s=Tu P f x fin list s:=
 ngy list L P f x fin I hI hs hz list.length 0 s (by omega) h
theorem nu6 {α β σ:Type} (k:β→α) (P:List DC→σ→Bool) (f:List DC→σ→σ) {x:β} (fin:σ→β):∀(list:Rows) (s:σ),Tu P f (k x) (fun s=>k (fin s)) list s=k (Tu P f x fin list s)
 | [],s=>rfl
 | r::rs,s=>by
  simp only[Tu]
  cases P r s
  ·exact nu6 k P f fin rs _
  ·rfl
theorem cond_congr {α:Type} {c d:Bool} {x y u v:α} (h:c=d) (h1:c=true→x=u) (h2:c=false→y=v):(bif c then x else y)=(bif d then u else v):=by
 subst h
 cases c
 ·exact h2 rfl
 ·exact h1 rfl
def nuL (n:Int) (r:List DC) (s:Rows):Bool:=bif !(nj (rI r 0) 0 (n - 1)) then true else rB (nth s (Int.toNat (rI r 0))) 0
def nrq (r:List DC) (s:Rows):Rows:=List.set s (Int.toNat (rI r 0)) (bQ (nth s (Int.toNat (rI r 0))) 0 [.bool true])
theorem njZ (r:List DC) (s:Rows):(nrq r s).length=s.length:=by simp [nrq]
def tU (p:nE):Bool:=bif bif !(nj p.oM 0 130944) then true else bif !(nj p.nI 1 512) then true else !(nj p.Count 0 16) then false
 else Tu (nuL p.Count) nrq false (fun _=>true) p.pN (List.replicate (Int.toNat p.Count) [.bool false])
theorem nsk (k_:Bool→α) (p:nE) (h_p:ka nE.ct p.enc):∃N,nfM kd k_ N p=k_ (tU p):=by
 obtain⟨hl,hw⟩:=oS (nE.npJ h_p)
 refine⟨p.pN.length+1, ?_⟩
 unfold nfM Xq tU
 refine qP (fun _=>rfl) (fun hg=> ?_)
 have hc:0≤p.Count∧p.Count≤16:=by
  cases h1:nj p.oM 0 130944
  ·rw[h1] at hg;cases hg
  cases h2:nj p.nI 1 512
  ·rw[h1,h2] at hg;cases hg
  cases h3:nj p.Count 0 16
  ·rw[h1,h2,h3] at hg;cases hg
  exact pf.1 h3
 have hmk:wW 1 p.Count p.Count=true:=by
  simp only[wW,Bool.and_eq_true,decide_eq_true_eq]
  omega
 rw[hmk,ng,cond_true]
 refine (njY p.pN (Pw kd k_ (p.pN.length+1) p.pN (len p.pN) p.Count) (nuL p.Count) nrq (k_ false) (fun _=>k_ true) (fun _ s=>(s.length:Int)=p.Count) (fun i s _ h _=> ?_) ?_ ?_ (List.replicate (Int.toNat p.Count) [.bool false]) ?_).trans ?_
 ·show ((nrq (nth p.pN i) s).length:Int)=p.Count
  rw[njZ,h]
 ·intro n i s h hs
  rw[Yi]
  have hw1:nS (p.Count - 1)=p.Count - 1:=nJ (by omega) (by omega)
  have hx:nj (rI (nth p.pN i) 0) 0 (p.Count - 1)=true→idx (rI (nth p.pN i) 0) s=true∧inl (Int.toNat (rI (nth p.pN i) 0)) s=true:=by
   intro hb
   have:=pf.1 hb
   refine⟨?_, ?_⟩
   ·simp only[idx,Bool.and_eq_true,decide_eq_true_eq];omega
   ·simp only[inl,decide_eq_true_eq];omega
  unfold nuL
  simp only[Px,pL h,n9 h,oE h hl,Int.toNat_natCast,ng,nv,cond_true,hw1]
  cases hb:nj (rI (nth p.pN i) 0) 0 (p.Count - 1)
  ·rw[nd1 (g:= !false) (x:=true) (fun _=>rfl) (fun h=>by cases h)]
   rfl
  ·obtain⟨x1,x2⟩:=hx hb
   rw[x1,x2]
   rfl
 ·intro n s _
  rw[Yi]
  simp only[Px,nX,cond_false]
 ·simp only[List.length_replicate];omega
 ·exact nu6 k_ _ _ (fun _=>true) p.pN _
def Qe (k_:Bool→α) (p_3:Int) (p_4:Rows) (oL:Int→Rows→α) (k:Int) (seen:Rows):α:=
 let z0:Bool:= !(nj (rI (nth p_4 (Int.toNat k)) 0) 0 (nS (p_3 - 1)))
 let z1:Bool:=idx (rI (nth p_4 (Int.toNat k)) 0) seen
 let z2:Nat:=Int.toNat (rI (nth p_4 (Int.toNat k)) 0)
 let z3:Bool:=inl z2 seen
 let z4:List DC:=nth seen z2
 bif decide (k<len p_4) then
  bif LV z0 (Ec true (idx k p_4)) (Ec (Ec (Ec (Ec true (idx k p_4)) (idx k p_4)) z1) z3) then
   bif bif z0 then true else rB z4 0 then k_ false
   else bif Ec (Ec (Ec true (idx k p_4)) z1) z3 then
     oL (nS (k+1)) (List.set seen z2 (bQ z4 0 [.bool true]))
    else kd
  else kd
 else k_ true
def Qd (k_:Bool→α) (N:Nat) (p_3:Int) (p_4:Rows) (m_:Nat):Int→Rows→α:=
 Nat.rec (motive:=fun _=>Int→Rows→α) (fun _ _=>kd) (fun _ oL=>Qe kd k_ p_3 p_4 oL) m_
theorem ZZ (k_:Bool→α) (N:Nat) (p_3:Int) (p_4:Rows) (m_:Nat):Qd kd k_ N p_3 p_4 (m_+1)=Qe kd k_ p_3 p_4 (Qd kd k_ N p_3 p_4 m_):=rfl
def XV (k_:Bool→α) (l0:Int→Rows→Int→Rows→α) (p:nE):α:=
 bif bif !(nj p.oM 0 130944) then true else bif !(nj p.nI 1 512) then true else !(nj p.Count 0 16) then k_ false
 else bif Ec true (wW 1 p.Count p.Count) then
   l0 p.Count p.pN 0 (List.replicate (Int.toNat p.Count) ([.bool false]:List DC))
  else kd
def ngC (k_:Bool→α) (N:Nat) (p:nE):α:=XV kd k_ (fun p_3 p_4=>Qd kd k_ N p_3 p_4 N) p
theorem nte (k_:Bool→α) (p:nE) (h_p:ka nE.ct p.enc):∃N,ngC kd k_ N p=k_ (tU p):=by
 obtain⟨hl,hw⟩:=oS (nE.npJ h_p)
 refine⟨p.pN.length+1, ?_⟩
 unfold ngC XV tU
 refine qP (fun _=>rfl) (fun hg=> ?_)
 have hc:0≤p.Count∧p.Count≤16:=by
  cases h1:nj p.oM 0 130944
  ·rw[h1] at hg;cases hg
  cases h2:nj p.nI 1 512
  ·rw[h1,h2] at hg;cases hg
  cases h3:nj p.Count 0 16
  ·rw[h1,h2,h3] at hg;cases hg
  exact pf.1 h3
 have hmk:wW 1 p.Count p.Count=true:=by
  simp only[wW,Bool.and_eq_true,decide_eq_true_eq]
  omega
 rw[hmk,ng,cond_true]
 refine (njY p.pN (Qd kd k_ (p.pN.length+1) p.Count p.pN) (nuL p.Count) nrq (k_ false) (fun _=>k_ true) (fun _ s=>(s.length:Int)=p.Count) (fun i s _ h _=> ?_) ?_ ?_ (List.replicate (Int.toNat p.Count) [.bool false]) ?_).trans ?_
 ·show ((nrq (nth p.pN i) s).length:Int)=p.Count
  rw[njZ,h]
 ·intro n i s h hs
  rw[ZZ]
  have hw1:nS (p.Count - 1)=p.Count - 1:=nJ (by omega) (by omega)
  have hx:nj (rI (nth p.pN i) 0) 0 (p.Count - 1)=true→idx (rI (nth p.pN i) 0) s=true∧inl (Int.toNat (rI (nth p.pN i) 0)) s=true:=by
   intro hb
   have:=pf.1 hb
   refine⟨?_, ?_⟩
   ·simp only[idx,Bool.and_eq_true,decide_eq_true_eq];omega
   ·simp only[inl,decide_eq_true_eq];omega
  unfold nuL
  simp only[Qe,pL h,n9 h,oE h hl,Int.toNat_natCast,ng,nv,cond_true,hw1]
  cases hb:nj (rI (nth p.pN i) 0) 0 (p.Count - 1)
  ·rw[nd1 (g:= !false) (x:=true) (fun _=>rfl) (fun h=>by cases h)]
   rfl
  ·obtain⟨x1,x2⟩:=hx hb
   rw[x1,x2]
   rfl
 ·intro n s _
  rw[ZZ]
  simp only[Qe,nX,cond_false]
 ·simp only[List.length_replicate];omega
 ·exact nu6 k_ _ _ (fun _=>true) p.pN _
def T5 (k_:nE→Bool→α) (p:nE) (nc:Rows):α:=
 let z0:nE:=(⟨(oB p).oM,(oB p).nI,(oB p).Count,((oB p).pN)++nc⟩:nE)
 bif Ec true (PW p) then
  bif Ec true (qS 8 ((oB p).pN) nc) then
   bif bif !(tU p) then true else !(tU z0) then
    bif Ec true (PW p) then
     k_ (oB p) false
    else kd
   else k_ z0 true
  else kd
 else kd
def X0 (p:nE) (nc:Rows):Bool:=sm p.pN && decide (p.pN.length+nc.length≤134217728)
theorem nv9 {p:nE} {nc:Rows} (h:X0 p nc=true):sm p.pN=true∧p.pN.length+nc.length≤134217728:=by
 simpa [X0] using h
def rV (p:nE) (nc:Rows):nE×Bool:=bif bif !(tU p) then true else !(tU (⟨p.oM,p.nI,p.Count,p.pN++nc⟩:nE)) then (p,false) else ((⟨p.oM,p.nI,p.Count,p.pN++nc⟩:nE),true)
theorem T4 (k_:nE→Bool→α) (p:nE) (nc:Rows) (aJ:X0 p nc=true):T5 kd k_ p nc=k_ (rV p nc).1 (rV p nc).2:=by
 have h:X0 p nc=true:=aJ
 obtain⟨h1,h2⟩:=nv9 h
 have hp:PW p=true:=h1
 unfold T5 rV
 simp only[oB,hp,NK h2 (show 8≤1048576 by omega),ng,cond_true]
 generalize (bif !(tU p) then true else !(tU (⟨p.oM,p.nI,p.Count,p.pN++nc⟩:nE)))=b
 cases b<;>rfl
def vX (k_:Int→Rows→α) (a:na) (k:Int):α:=
 bif Ec true (OZ 1 a.nK k) then
  k_ ((uO a.nK k).1) ((uO a.nK k).2)
 else kd
def NI (a:na) (k:Int):Bool:=vX false (fun _ _=>true) a k
def xr (a:na) (k:Int):Int×Rows:=(vX none (fun r0 r1=>some (r0,r1)) a k).getD (0,[])
theorem njm (k_:Int→Rows→α) (a:na) (k:Int) (aJ:NI a k=true):vX kd k_ a k=k_ (xr a k).1 (xr a k).2:=by
 exact uj (K:=fun r:Int×Rows=>k_ r.1 r.2) (ov (fun _=>⟨_,rfl,rfl⟩)) aJ
def vU (k_:Int→α) (a:na) (k:Int):α:=
 bif Ec true (Qk th 1 a.nK k) then
  bif decide (uL a.nK k<0) then k_ (-1)
  else k_ (uL a.nK k)
 else kd
def Nu (a:na) (k:Int):Bool:=vU false (fun _=>true) a k
def Ox (a:na) (k:Int):Int:=(vU none (fun r0=>some (r0)) a k).getD 0
theorem ni9 (k_:Int→α) (a:na) (k:Int) (aJ:Nu a k=true):vU kd k_ a k=k_ (Ox a k):=by
 exact uj (K:=fun r:Int=>k_ r) (ov (rv qt qt)) aJ
def xK (k_:Int→Rows→α) (a:nE) (k:Int):α:=
 bif Ec true (OZ 1 a.pN k) then
  k_ ((sR a.pN k).1) ((sR a.pN k).2)
 else kd
def R0 (a:nE) (k:Int):Bool:=xK false (fun _ _=>true) a k
def PU (a:nE) (k:Int):Int×Rows:=(xK none (fun r0 r1=>some (r0,r1)) a k).getD (0,[])
theorem nok (k_:Int→Rows→α) (a:nE) (k:Int) (aJ:R0 a k=true):xK kd k_ a k=k_ (PU a k).1 (PU a k).2:=by
 exact uj (K:=fun r:Int×Rows=>k_ r.1 r.2) (ov (fun _=>⟨_,rfl,rfl⟩)) aJ
def xI (k_:Int→α) (a:nE) (k:Int):α:=
 bif Ec true (Qk sE 1 a.pN k) then
  bif decide (rM a.pN k<0) then k_ (-1)
  else k_ (rM a.pN k)
 else kd
def RN (a:nE) (k:Int):Bool:=xI false (fun _=>true) a k
def TV (a:nE) (k:Int):Int:=(xI none (fun r0=>some (r0)) a k).getD 0
theorem noc (k_:Int→α) (a:nE) (k:Int) (aJ:RN a k=true):xI kd k_ a k=k_ (TV a k):=by
 exact uj (K:=fun r:Int=>k_ r) (ov (rv qt qt)) aJ
def vW (k_:Int→Rows→α) (a:nB) (k:Int):α:=
 bif Ec true (OZ 1 a.pd k) then
  k_ ((sR a.pd k).1) ((sR a.pd k).2)
 else kd
def NH (a:nB) (k:Int):Bool:=vW false (fun _ _=>true) a k
def OK (a:nB) (k:Int):Int×Rows:=(vW none (fun r0 r1=>some (r0,r1)) a k).getD (0,[])
theorem nji (k_:Int→Rows→α) (a:nB) (k:Int) (aJ:NH a k=true):vW kd k_ a k=k_ (OK a k).1 (OK a k).2:=by
 exact uj (K:=fun r:Int×Rows=>k_ r.1 r.2) (ov (fun _=>⟨_,rfl,rfl⟩)) aJ
def vT (k_:Int→α) (a:nB) (k:Int):α:=
 bif Ec true (Qk sE 1 a.pd k) then
  bif decide (rM a.pd k<0) then k_ (-1)
  else k_ (rM a.pd k)
 else kd
def Ns (a:nB) (k:Int):Bool:=vT false (fun _=>true) a k
def TU (a:nB) (k:Int):Int:=(vT none (fun r0=>some (r0)) a k).getD 0
theorem ni7 (k_:Int→α) (a:nB) (k:Int) (aJ:Ns a k=true):vT kd k_ a k=k_ (TU a k):=by
 exact uj (K:=fun r:Int=>k_ r) (ov (rv qt qt)) aJ
def ug (k_:Int→Rows→α) (a:ni) (k:Int):α:=
 bif Ec true (OZ 7 a.nC k) then
  k_ ((Ra a.nC k).1) ((Ra a.nC k).2)
 else kd
def wX (a:ni) (k:Int):Bool:=ug false (fun _ _=>true) a k
def wu (a:ni) (k:Int):Int×Rows:=(ug none (fun r0 r1=>some (r0,r1)) a k).getD (0,[])
theorem ndt (k_:Int→Rows→α) (a:ni) (k:Int) (aJ:wX a k=true):ug kd k_ a k=k_ (wu a k).1 (wu a k).2:=by
 exact uj (K:=fun r:Int×Rows=>k_ r.1 r.2) (ov (fun _=>⟨_,rfl,rfl⟩)) aJ
def uf (k_:Int→α) (a:ni) (k:Int):α:=
 bif Ec true (Qk nae 7 a.nC k) then
  bif decide (TF a.nC k<0) then k_ (-1)
  else k_ (TF a.nC k)
 else kd
def wM (a:ni) (k:Int):Bool:=uf false (fun _=>true) a k
def Nt (a:ni) (k:Int):Int:=(uf none (fun r0=>some (r0)) a k).getD 0
theorem ndo (k_:Int→α) (a:ni) (k:Int) (aJ:wM a k=true):uf kd k_ a k=k_ (Nt a k):=by
 exact uj (K:=fun r:Int=>k_ r) (ov (rv qt qt)) aJ
def vY (k_:Int→Rows→α) (a:nD) (k:Int):α:=
 bif Ec true (OZ 1 a.Table k) then
  k_ ((sR a.Table k).1) ((sR a.Table k).2)
 else kd
def NJ (a:nD) (k:Int):Bool:=vY false (fun _ _=>true) a k
def OL (a:nD) (k:Int):Int×Rows:=(vY none (fun r0 r1=>some (r0,r1)) a k).getD (0,[])
theorem nju (k_:Int→Rows→α) (a:nD) (k:Int) (aJ:NJ a k=true):vY kd k_ a k=k_ (OL a k).1 (OL a k).2:=by
 exact uj (K:=fun r:Int×Rows=>k_ r.1 r.2) (ov (fun _=>⟨_,rfl,rfl⟩)) aJ
def vV (k_:Int→α) (a:nD) (k:Int):α:=
 bif Ec true (Qk sE 1 a.Table k) then
  bif decide (rM a.Table k<0) then k_ (-1)
  else k_ (rM a.Table k)
 else kd
def Nv (a:nD) (k:Int):Bool:=vV false (fun _=>true) a k
def TW (a:nD) (k:Int):Int:=(vV none (fun r0=>some (r0)) a k).getD 0
theorem nje (k_:Int→α) (a:nD) (k:Int) (aJ:Nv a k=true):vV kd k_ a k=k_ (TW a k):=by
 exact uj (K:=fun r:Int=>k_ r) (ov (rv qt qt)) aJ
def vf (k_:Int→Rows→Rows→α) (a:nn) (k:Int):α:=
 let z0:Int×Rows:=zQ a.ny ((PU a.nP k).1)
 bif Ec true (R0 a.nP k) then
  bif Ec true (yE sX Sd a.ny ((PU a.nP k).1)) then
   k_ z0.1 ((PU a.nP k).2) z0.2
  else kd
 else kd
def y7 (a:nn) (k:Int):Bool:=vf false (fun _ _ _=>true) a k
def v8 (a:nn) (k:Int):Int×Rows×Rows:=(vf none (fun r0 r1 r2=>some (r0,r1,r2)) a k).getD (0,[],[])
theorem nhx (k_:Int→Rows→Rows→α) (a:nn) (k:Int) (aJ:y7 a k=true):vf kd k_ a k=k_ (v8 a k).1 (v8 a k).2.1 (v8 a k).2.2:=by
 exact uj (K:=fun r:Int×Rows×Rows=>k_ r.1 r.2.1 r.2.2) (ov (ov (fun _=>⟨_,rfl,rfl⟩))) aJ
def ve (k_:Int→α) (a:nn) (k:Int):α:=
 let z0:Int:=X3 a.ny (TV a.nP k)
 bif Ec true (RN a.nP k) then
  bif decide (TV a.nP k<0) then k_ (-1)
  else bif Ec true (neY a.ny (TV a.nP k)) then
    bif decide (z0<0) then k_ (-1)
    else k_ z0
   else kd
 else kd
def yU (a:nn) (k:Int):Bool:=ve false (fun _=>true) a k
def RP (a:nn) (k:Int):Int:=(ve none (fun r0=>some (r0)) a k).getD 0
theorem nhn (k_:Int→α) (a:nn) (k:Int) (aJ:yU a k=true):ve kd k_ a k=k_ (RP a k):=by
 exact uj (K:=fun r:Int=>k_ r) (ov (rv qt (ov (rv qt qt)))) aJ
def uF (k_:Int→Rows→Rows→Rows→α) (a:nm) (k:Int):α:=
 let z0:Int×Rows:=wu a.Table ((OW a.ot k).1)
 let z1:Int×Rows:=OL a.nL z0.1
 bif Ec true (OZ 9 a.ot k) then
  bif Ec true (wX a.Table ((OW a.ot k).1)) then
   bif Ec true (NJ a.nL z0.1) then
    k_ z1.1 ((OW a.ot k).2) z0.2 z1.2
   else kd
  else kd
 else kd
def xM (a:nm) (k:Int):Bool:=uF false (fun _ _ _ _=>true) a k
def tE (a:nm) (k:Int):Int×Rows×Rows×Rows:=(uF none (fun r0 r1 r2 r3=>some (r0,r1,r2,r3)) a k).getD (0,[],[],[])
theorem nfs (k_:Int→Rows→Rows→Rows→α) (a:nm) (k:Int) (aJ:xM a k=true):uF kd k_ a k=k_ (tE a k).1 (tE a k).2.1 (tE a k).2.2.1 (tE a k).2.2.2:=by
 exact uj (K:=fun r:Int×Rows×Rows×Rows=>k_ r.1 r.2.1 r.2.2.1 r.2.2.2) (ov (ov (ov (fun _=>⟨_,rfl,rfl⟩)))) aJ
def uE (k_:Int→α) (a:nm) (k:Int):α:=
 let z0:Int:=Nt a.Table (Qu a.ot k)
 let z1:Int:=TW a.nL z0
 bif Ec true (Qk nad 9 a.ot k) then
  bif decide (Qu a.ot k<0) then k_ (-1)
  else bif Ec true (wM a.Table (Qu a.ot k)) then
    bif decide (z0<0) then k_ (-1)
    else bif Ec true (Nv a.nL z0) then
      bif decide (z1<0) then k_ (-1)
      else k_ z1
     else kd
   else kd
 else kd
def xB (a:nm) (k:Int):Bool:=uE false (fun _=>true) a k
def Po (a:nm) (k:Int):Int:=(uE none (fun r0=>some (r0)) a k).getD 0
theorem nfh (k_:Int→α) (a:nm) (k:Int) (aJ:xB a k=true):uE kd k_ a k=k_ (Po a k):=by
 exact uj (K:=fun r:Int=>k_ r) (ov (rv qt (ov (rv qt (ov (rv qt qt)))))) aJ
def xJ (k_:Int→Rows→Rows→Rows→Rows→Rows→Rows→Rows→Rows→Rows→Rows→Rows→Rows→Rows→Rows→Rows→Rows→α) (a:nt) (k:Int):α:=
 let z0:Int×Rows:=zN a.Maps ((xr a.nZ k).1)
 let z1:Int×Rows×Rows:=v8 a.Tx z0.1
 let z2:Int:=z1.1
 let z3:Int×Rows:=zP a.Rx z2
 let z4:Int:=z3.1
 let z5:Int×Rows:=zO a.n_ z4
 let z6:Int:=z5.1
 let z7:Int×Rows:=OY a.nM z6
 let z8:Int:=z7.1
 let z9:Int×Rows:=Q_ a.ox z8
 let z10:Int:=z9.1
 let z11:Int×Rows:=OK a.Filter z10
 let z12:Int:=z11.1
 let z13:Int×Rows×Rows×Rows:=tE a.nh z12
 let z14:Int:=z13.1
 let z15:Int×Rows:=OX a.oF z14
 let z16:Int:=z15.1
 let z17:Int×Rows:=uO a.sU z16
 let z18:Int:=z17.1
 let z19:Int×Rows:=sR a.nY z18
 let z20:Int:=z19.1
 let z21:Int×Rows:=sR a.oq z20
 bif Ec true (NI a.nZ k) then
  bif Ec true (OZ 4 a.Maps ((xr a.nZ k).1)) then
   bif Ec true (y7 a.Tx z0.1) then
    bif Ec true (OZ 30 a.Rx z2) then
     bif Ec true (yE sW Sc a.n_ z4) then
      bif Ec true (OZ 6 a.nM z6) then
       bif Ec true (OZ 1 a.ox z8) then
        bif Ec true (NH a.Filter z10) then
         bif Ec true (xM a.nh z12) then
          bif Ec true (OZ 8 a.oF z14) then
           bif Ec true (OZ 1 a.sU z16) then
            bif Ec true (OZ 1 a.nY z18) then
             bif Ec true (OZ 1 a.oq z20) then
              k_ z21.1 ((xr a.nZ k).2) z0.2 z1.2.1 z1.2.2 z3.2 z5.2 z7.2 z9.2 z11.2 z13.2.1 z13.2.2.1 z13.2.2.2 z15.2 z17.2 z19.2 z21.2
             else kd
            else kd
           else kd
          else kd
         else kd
        else kd
       else kd
      else kd
     else kd
    else kd
   else kd
  else kd
 else kd
def y6 (a:nt) (k:Int):Bool:=xJ false (fun _ _ _ _ _ _ _ _ _ _ _ _ _ _ _ _ _=>true) a k
def oD (a:nt) (k:Int):Int×Rows×Rows×Rows×Rows×Rows×Rows×Rows×Rows×Rows×Rows×Rows×Rows×Rows×Rows×Rows×Rows:=(xJ none (fun r0 r1 r2 r3 r4 r5 r6 r7 r8 r9 r10 r11 r12 r13 r14 r15 r16=>some (r0,r1,r2,r3,r4,r5,r6,r7,r8,r9,r10,r11,r12,r13,r14,r15,r16)) a k).getD (0,[],[],[],[],[],[],[],[],[],[],[],[],[],[],[],[])
theorem nof (k_:Int→Rows→Rows→Rows→Rows→Rows→Rows→Rows→Rows→Rows→Rows→Rows→Rows→Rows→Rows→Rows→Rows→α) (a:nt) (k:Int) (aJ:y6 a k=true):xJ kd k_ a k=k_ (oD a k).1 (oD a k).2.1 (oD a k).2.2.1 (oD a k).2.2.2.1 (oD a k).2.2.2.2.1 (oD a k).2.2.2.2.2.1 (oD a k).2.2.2.2.2.2.1 (oD a k).2.2.2.2.2.2.2.1 (oD a k).2.2.2.2.2.2.2.2.1 (oD a k).2.2.2.2.2.2.2.2.2.1 (oD a k).2.2.2.2.2.2.2.2.2.2.1 (oD a k).2.2.2.2.2.2.2.2.2.2.2.1 (oD a k).2.2.2.2.2.2.2.2.2.2.2.2.1 (oD a k).2.2.2.2.2.2.2.2.2.2.2.2.2.1 (oD a k).2.2.2.2.2.2.2.2.2.2.2.2.2.2.1 (oD a k).2.2.2.2.2.2.2.2.2.2.2.2.2.2.2.1 (oD a k).2.2.2.2.2.2.2.2.2.2.2.2.2.2.2.2:=by
 exact uj (K:=fun r:Int×Rows×Rows×Rows×Rows×Rows×Rows×Rows×Rows×Rows×Rows×Rows×Rows×Rows×Rows×Rows×Rows=>k_ r.1 r.2.1 r.2.2.1 r.2.2.2.1 r.2.2.2.2.1 r.2.2.2.2.2.1 r.2.2.2.2.2.2.1 r.2.2.2.2.2.2.2.1 r.2.2.2.2.2.2.2.2.1 r.2.2.2.2.2.2.2.2.2.1 r.2.2.2.2.2.2.2.2.2.2.1 r.2.2.2.2.2.2.2.2.2.2.2.1 r.2.2.2.2.2.2.2.2.2.2.2.2.1 r.2.2.2.2.2.2.2.2.2.2.2.2.2.1 r.2.2.2.2.2.2.2.2.2.2.2.2.2.2.1 r.2.2.2.2.2.2.2.2.2.2.2.2.2.2.2.1 r.2.2.2.2.2.2.2.2.2.2.2.2.2.2.2.2) (ov (ov (ov (ov (ov (ov (ov (ov (ov (ov (ov (ov (ov (fun _=>⟨_,rfl,rfl⟩)))))))))))))) aJ
def xH (k_:Int→α) (a:nt) (k:Int):α:=
 let z0:Int:=Pm a.Maps (Ox a.nZ k)
 let z1:Int:=RP a.Tx z0
 let z2:Int:=Pn a.Rx z1
 let z3:Int:=X2 a.n_ z2
 let z4:Int:=RQ a.nM z3
 let z5:Int:=TE a.ox z4
 let z6:Int:=TU a.Filter z5
 let z7:Int:=Po a.nh z6
 let z8:Int:=RO a.oF z7
 let z9:Int:=uL a.sU z8
 let z10:Int:=rM a.nY z9
 let z11:Int:=rM a.oq z10
 bif Ec true (Nu a.nZ k) then
  bif decide (Ox a.nZ k<0) then k_ (-1)
  else bif Ec true (Qk zi 4 a.Maps (Ox a.nZ k)) then
    bif decide (z0<0) then k_ (-1)
    else bif Ec true (yU a.Tx z0) then
      bif decide (z1<0) then k_ (-1)
      else bif Ec true (Qk zj 30 a.Rx z1) then
        bif decide (z2<0) then k_ (-1)
        else bif Ec true (neX a.n_ z2) then
          bif decide (z3<0) then k_ (-1)
          else bif Ec true (Qk Pg 6 a.nM z3) then
            bif decide (z4<0) then k_ (-1)
            else bif Ec true (Qk Pc 1 a.ox z4) then
              bif decide (z5<0) then k_ (-1)
              else bif Ec true (Ns a.Filter z5) then
                bif decide (z6<0) then k_ (-1)
                else bif Ec true (xB a.nh z6) then
                  bif decide (z7<0) then k_ (-1)
                  else bif Ec true (Qk Pf 8 a.oF z7) then
                    bif decide (z8<0) then k_ (-1)
                    else bif Ec true (Qk th 1 a.sU z8) then
                      bif decide (z9<0) then k_ (-1)
                      else bif Ec true (Qk sE 1 a.nY z9) then
                        bif decide (z10<0) then k_ (-1)
                        else bif Ec true (Qk sE 1 a.oq z10) then
                          bif decide (z11<0) then k_ (-1)
                          else k_ z11
                         else kd
                       else kd
                     else kd
                   else kd
                 else kd
               else kd
             else kd
           else kd
         else kd
       else kd
     else kd
   else kd
 else kd
def OR (a:nt) (k:Int):Bool:=xH false (fun _=>true) a k
def X1 (a:nt) (k:Int):Int:=(xH none (fun r0=>some (r0)) a k).getD 0
theorem nn_ (k_:Int→α) (a:nt) (k:Int) (aJ:OR a k=true):xH kd k_ a k=k_ (X1 a k):=by
 exact uj (K:=fun r:Int=>k_ r) (ov (rv qt (ov (rv qt (ov (rv qt (ov (rv qt (ov (rv qt (ov (rv qt (ov (rv qt (ov (rv qt (ov (rv qt (ov (rv qt (ov (rv qt (ov (rv qt (ov (rv qt qt)))))))))))))))))))))))))) aJ
theorem nwU (x k:Bool):((bif x then k else false)=true)=(x=true∧k=true):=by cases x<;>simp
def vu (a:nt):Bool:=sm a.nZ.nK && (sm a.Maps && (sm a.Tx.nP.pN && (PX a.Tx.ny && (sm a.Rx && (nal a.n_ && (sm a.nM && (sm a.ox && (sm a.Filter.pd && (sm a.nh.ot && (sm a.nh.Table.nC && (sm a.nh.nL.Table && (sm a.oF && (sm a.sU && (sm a.nY && (sm a.oq)))))))))))))))
theorem nvW {a:nt} (h:tC a=true):vu a=true:=by
 simp only[tC,RE,uX,Oa,ur,zL,tD,RF,uW,N_,t0,yD,tL,xo,uY,Of,ng,gn,nwU,Bool.and_eq_true,and_true,true_and,tS,uz,ui,RG,List.all_eq_true] at h
 simp only[vu,PX,nal,Bool.and_eq_true,List.all_eq_true]
 obtain⟨h0,h1,⟨h2,h3,h4⟩,h5,⟨h6,h7⟩,h8,h9,h10,⟨h11,h12,h13⟩,h14,h15,h16,h17⟩:=h
 exact⟨h0,h1,h2,⟨h3,h4⟩,h5,⟨h6,h7⟩,h8,h9,h10,h11,h12,h13,h14,h15,h16,h17⟩
theorem nvu {a:nt} (h:vu a=true):∃(K:Int) (P0 P1 P2 P3 P4 P5 P6 P7 P8 P9 P10 P11 P12 P13 P14 P15:Rows),y6 a 1=true∧oD a 1=(K,P0,P1,P2,P3,P4,P5,P6,P7,P8,P9,P10,P11,P12,P13,P14,P15)∧0≤K∧OR (⟨⟨P0⟩,P1,⟨a.Tx.Ring,⟨a.Tx.nP.oM,a.Tx.nP.nI,a.Tx.nP.Count,P2⟩,P3,a.Tx.Next⟩,P4,P5,P6,P7,⟨a.Filter.Qj,a.Filter.nU,P8⟩,⟨P9,⟨P10⟩,⟨a.nh.nL.Key,P11⟩⟩,P12,a.pj,P13,P14,P15,a.Counters⟩:nt) 1=true∧X1 (⟨⟨P0⟩,P1,⟨a.Tx.Ring,⟨a.Tx.nP.oM,a.Tx.nP.nI,a.Tx.nP.Count,P2⟩,P3,a.Tx.Next⟩,P4,P5,P6,P7,⟨a.Filter.Qj,a.Filter.nU,P8⟩,⟨P9,⟨P10⟩,⟨a.nh.nL.Key,P11⟩⟩,P12,a.pj,P13,P14,P15,a.Counters⟩:nt) 1=K:=by
 simp only[vu,Bool.and_eq_true] at h
 obtain⟨s0,s1,s2,s3,s4,s5,s6,s7,s8,s9,s10,s11,s12,s13,s14,s15⟩:=h
 have l0:=uG s0
 obtain⟨K0,hK0⟩:∃K:Int,K=1+1*(a.nZ.nK.length:Int):=⟨_,rfl⟩
 have o0:OZ 1 a.nZ.nK 1=true:=y8 s0 (by omega) (by omega)
 have e0:uO a.nZ.nK 1=(K0,(vr th 1 a.nZ.nK.length 1)):=by rw[hK0];rfl
 have q0:Qk th 1 (vr th 1 a.nZ.nK.length 1) 1=true:=Pk s0 (by omega) (by omega)
 have g0:uL (vr th 1 a.nZ.nK.length 1) 1=K0:=by rw[hK0];simp only[uL,qO]
 have b0:0≤K0∧K0≤16777217:=by omega
 have z0:¬K0<0:=by omega
 clear hK0
 have l1:=uG s1
 obtain⟨K1,hK1⟩:∃K:Int,K=K0+4*(a.Maps.length:Int):=⟨_,rfl⟩
 have o1:OZ 4 a.Maps K0=true:=y8 s1 (by omega) (by omega)
 have e1:zN a.Maps K0=(K1,(vr zi 4 a.Maps.length K0)):=by rw[hK1];rfl
 have q1:Qk zi 4 (vr zi 4 a.Maps.length K0) K0=true:=Pk s1 (by omega) (by omega)
 have g1:Pm (vr zi 4 a.Maps.length K0) K0=K1:=by rw[hK1];simp only[Pm,qO]
 have b1:0≤K1∧K1≤83886081:=by omega
 have z1:¬K1<0:=by omega
 clear hK1
 have l2:=uG s2
 obtain⟨K2,hK2⟩:∃K:Int,K=K1+1*(a.Tx.nP.pN.length:Int):=⟨_,rfl⟩
 have o2:OZ 1 a.Tx.nP.pN K1=true:=y8 s2 (by omega) (by omega)
 have e2:sR a.Tx.nP.pN K1=(K2,(vr sE 1 a.Tx.nP.pN.length K1)):=by rw[hK2];rfl
 have q2:Qk sE 1 (vr sE 1 a.Tx.nP.pN.length K1) K1=true:=Pk s2 (by omega) (by omega)
 have g2:rM (vr sE 1 a.Tx.nP.pN.length K1) K1=K2:=by rw[hK2];simp only[rM,qO]
 have b2:0≤K2∧K2≤100663297:=by omega
 have z2:¬K2<0:=by omega
 clear hK2
 obtain⟨o3,q3,g3,u3,v3⟩:=nwg s3 (k:=K2) (by omega) (by omega)
 obtain⟨K3,hK3⟩:∃K:Int,K=(R2 sX a.Tx.ny K2).2:=⟨_,rfl⟩
 have e3:zQ a.Tx.ny K2=(K3,(R2 sX a.Tx.ny K2).1):=by rw[hK3];rfl
 have g3:X3 (R2 sX a.Tx.ny K2).1 K2=K3:=by rw[hK3];exact g3
 rw[←hK3] at u3 v3
 have b3:0≤K3∧K3≤281475211591681:=by omega
 have z3:¬K3<0:=by omega
 clear hK3
 have l4:=uG s4
 obtain⟨K4,hK4⟩:∃K:Int,K=K3+30*(a.Rx.length:Int):=⟨_,rfl⟩
 have o4:OZ 30 a.Rx K3=true:=y8 s4 (by omega) (by omega)
 have e4:zP a.Rx K3=(K4,(vr zj 30 a.Rx.length K3)):=by rw[hK4];rfl
 have q4:Qk zj 30 (vr zj 30 a.Rx.length K3) K3=true:=Pk s4 (by omega) (by omega)
 have g4:Pn (vr zj 30 a.Rx.length K3) K3=K4:=by rw[hK4];simp only[Pn,qO]
 have b4:0≤K4∧K4≤281475714908161:=by omega
 have z4:¬K4<0:=by omega
 clear hK4
 obtain⟨o5,q5,g5,u5,v5⟩:=nwf s5 (k:=K4) (by omega) (by omega)
 obtain⟨K5,hK5⟩:∃K:Int,K=(R2 sW a.n_ K4).2:=⟨_,rfl⟩
 have e5:zO a.n_ K4=(K5,(R2 sW a.n_ K4).1):=by rw[hK5];rfl
 have g5:X2 (R2 sW a.n_ K4).1 K4=K5:=by rw[hK5];exact g5
 rw[←hK5] at u5 v5
 have b5:0≤K5∧K5≤562950825836545:=by omega
 have z5:¬K5<0:=by omega
 clear hK5
 have l6:=uG s6
 obtain⟨K6,hK6⟩:∃K:Int,K=K5+6*(a.nM.length:Int):=⟨_,rfl⟩
 have o6:OZ 6 a.nM K5=true:=y8 s6 (by omega) (by omega)
 have e6:OY a.nM K5=(K6,(vr Pg 6 a.nM.length K5)):=by rw[hK6];rfl
 have q6:Qk Pg 6 (vr Pg 6 a.nM.length K5) K5=true:=Pk s6 (by omega) (by omega)
 have g6:RQ (vr Pg 6 a.nM.length K5) K5=K6:=by rw[hK6];simp only[RQ,qO]
 have b6:0≤K6∧K6≤562950926499841:=by omega
 have z6:¬K6<0:=by omega
 clear hK6
 have l7:=uG s7
 obtain⟨K7,hK7⟩:∃K:Int,K=K6+1*(a.ox.length:Int):=⟨_,rfl⟩
 have o7:OZ 1 a.ox K6=true:=y8 s7 (by omega) (by omega)
 have e7:Q_ a.ox K6=(K7,(vr Pc 1 a.ox.length K6)):=by rw[hK7];rfl
 have q7:Qk Pc 1 (vr Pc 1 a.ox.length K6) K6=true:=Pk s7 (by omega) (by omega)
 have g7:TE (vr Pc 1 a.ox.length K6) K6=K7:=by rw[hK7];simp only[TE,qO]
 have b7:0≤K7∧K7≤562950943277057:=by omega
 have z7:¬K7<0:=by omega
 clear hK7
 have l8:=uG s8
 obtain⟨K8,hK8⟩:∃K:Int,K=K7+1*(a.Filter.pd.length:Int):=⟨_,rfl⟩
 have o8:OZ 1 a.Filter.pd K7=true:=y8 s8 (by omega) (by omega)
 have e8:sR a.Filter.pd K7=(K8,(vr sE 1 a.Filter.pd.length K7)):=by rw[hK8];rfl
 have q8:Qk sE 1 (vr sE 1 a.Filter.pd.length K7) K7=true:=Pk s8 (by omega) (by omega)
 have g8:rM (vr sE 1 a.Filter.pd.length K7) K7=K8:=by rw[hK8];simp only[rM,qO]
 have b8:0≤K8∧K8≤562950960054273:=by omega
 have z8:¬K8<0:=by omega
 clear hK8
 have l9:=uG s9
 obtain⟨K9,hK9⟩:∃K:Int,K=K8+9*(a.nh.ot.length:Int):=⟨_,rfl⟩
 have o9:OZ 9 a.nh.ot K8=true:=y8 s9 (by omega) (by omega)
 have e9:OW a.nh.ot K8=(K9,(vr nad 9 a.nh.ot.length K8)):=by rw[hK9];rfl
 have q9:Qk nad 9 (vr nad 9 a.nh.ot.length K8) K8=true:=Pk s9 (by omega) (by omega)
 have g9:Qu (vr nad 9 a.nh.ot.length K8) K8=K9:=by rw[hK9];simp only[Qu,qO]
 have b9:0≤K9∧K9≤562951111049217:=by omega
 have z9:¬K9<0:=by omega
 clear hK9
 have l10:=uG s10
 obtain⟨K10,nwV⟩:∃K:Int,K=K9+7*(a.nh.Table.nC.length:Int):=⟨_,rfl⟩
 have o10:OZ 7 a.nh.Table.nC K9=true:=y8 s10 (by omega) (by omega)
 have e10:Ra a.nh.Table.nC K9=(K10,(vr nae 7 a.nh.Table.nC.length K9)):=by rw[nwV];rfl
 have q10:Qk nae 7 (vr nae 7 a.nh.Table.nC.length K9) K9=true:=Pk s10 (by omega) (by omega)
 have g10:TF (vr nae 7 a.nh.Table.nC.length K9) K9=K10:=by rw[nwV];simp only[TF,qO]
 have b10:0≤K10∧K10≤562951228489729:=by omega
 have z10:¬K10<0:=by omega
 clear nwV
 have l11:=uG s11
 obtain⟨K11,nwW⟩:∃K:Int,K=K10+1*(a.nh.nL.Table.length:Int):=⟨_,rfl⟩
 have o11:OZ 1 a.nh.nL.Table K10=true:=y8 s11 (by omega) (by omega)
 have e11:sR a.nh.nL.Table K10=(K11,(vr sE 1 a.nh.nL.Table.length K10)):=by rw[nwW];rfl
 have q11:Qk sE 1 (vr sE 1 a.nh.nL.Table.length K10) K10=true:=Pk s11 (by omega) (by omega)
 have g11:rM (vr sE 1 a.nh.nL.Table.length K10) K10=K11:=by rw[nwW];simp only[rM,qO]
 have b11:0≤K11∧K11≤562951245266945:=by omega
 have z11:¬K11<0:=by omega
 clear nwW
 have l12:=uG s12
 obtain⟨K12,nwX⟩:∃K:Int,K=K11+8*(a.oF.length:Int):=⟨_,rfl⟩
 have o12:OZ 8 a.oF K11=true:=y8 s12 (by omega) (by omega)
 have e12:OX a.oF K11=(K12,(vr Pf 8 a.oF.length K11)):=by rw[nwX];rfl
 have q12:Qk Pf 8 (vr Pf 8 a.oF.length K11) K11=true:=Pk s12 (by omega) (by omega)
 have g12:RO (vr Pf 8 a.oF.length K11) K11=K12:=by rw[nwX];simp only[RO,qO]
 have b12:0≤K12∧K12≤562951379484673:=by omega
 have z12:¬K12<0:=by omega
 clear nwX
 have l13:=uG s13
 obtain⟨K13,nwY⟩:∃K:Int,K=K12+1*(a.sU.length:Int):=⟨_,rfl⟩
 have o13:OZ 1 a.sU K12=true:=y8 s13 (by omega) (by omega)
 have e13:uO a.sU K12=(K13,(vr th 1 a.sU.length K12)):=by rw[nwY];rfl
 have q13:Qk th 1 (vr th 1 a.sU.length K12) K12=true:=Pk s13 (by omega) (by omega)
 have g13:uL (vr th 1 a.sU.length K12) K12=K13:=by rw[nwY];simp only[uL,qO]
 have b13:0≤K13∧K13≤562951396261889:=by omega
 have z13:¬K13<0:=by omega
 clear nwY
 have l14:=uG s14
 obtain⟨K14,nwZ⟩:∃K:Int,K=K13+1*(a.nY.length:Int):=⟨_,rfl⟩
 have o14:OZ 1 a.nY K13=true:=y8 s14 (by omega) (by omega)
 have e14:sR a.nY K13=(K14,(vr sE 1 a.nY.length K13)):=by rw[nwZ];rfl
 have q14:Qk sE 1 (vr sE 1 a.nY.length K13) K13=true:=Pk s14 (by omega) (by omega)
 have g14:rM (vr sE 1 a.nY.length K13) K13=K14:=by rw[nwZ];simp only[rM,qO]
 have b14:0≤K14∧K14≤562951413039105:=by omega
 have z14:¬K14<0:=by omega
 clear nwZ
 have l15:=uG s15
 obtain⟨K15,nw0⟩:∃K:Int,K=K14+1*(a.oq.length:Int):=⟨_,rfl⟩
 have o15:OZ 1 a.oq K14=true:=y8 s15 (by omega) (by omega)
 have e15:sR a.oq K14=(K15,(vr sE 1 a.oq.length K14)):=by rw[nw0];rfl
 have q15:Qk sE 1 (vr sE 1 a.oq.length K14) K14=true:=Pk s15 (by omega) (by omega)
 have g15:rM (vr sE 1 a.oq.length K14) K14=K15:=by rw[nw0];simp only[rM,qO]
 have b15:0≤K15∧K15≤562951429816321:=by omega
 have z15:¬K15<0:=by omega
 clear nw0
 refine⟨K15,(vr th 1 a.nZ.nK.length 1),(vr zi 4 a.Maps.length K0),(vr sE 1 a.Tx.nP.pN.length K1),(R2 sX a.Tx.ny K2).1,(vr zj 30 a.Rx.length K3),(R2 sW a.n_ K4).1,(vr Pg 6 a.nM.length K5),(vr Pc 1 a.ox.length K6),(vr sE 1 a.Filter.pd.length K7),(vr nad 9 a.nh.ot.length K8),(vr nae 7 a.nh.Table.nC.length K9),(vr sE 1 a.nh.nL.Table.length K10),(vr Pf 8 a.oF.length K11),(vr th 1 a.sU.length K12),(vr sE 1 a.nY.length K13),(vr sE 1 a.oq.length K14), ?_, ?_,by omega, ?_, ?_⟩
 ·simp only[NI,xr,vX,R0,PU,xK,NH,OK,vW,wX,wu,ug,NJ,OL,vY,y7,v8,vf,xM,tE,uF,y6,oD,xJ,Option.getD_some,e0,e1,e2,e3,e4,e5,e6,e7,e8,e9,e10,e11,e12,e13,e14,e15,o0,o1,o2,o3,o4,o5,o6,o7,o8,o9,o10,o11,o12,o13,o14,o15,ng,nv,cond_true]
 ·simp only[NI,xr,vX,R0,PU,xK,NH,OK,vW,wX,wu,ug,NJ,OL,vY,y7,v8,vf,xM,tE,uF,y6,oD,xJ,e0,e1,e2,e3,e4,e5,e6,e7,e8,e9,e10,e11,e12,e13,e14,e15,o0,o1,o2,o3,o4,o5,o6,o7,o8,o9,o10,o11,o12,o13,o14,o15,ng,nv,cond_true,Option.getD_some]
 ·simp only[Nu,Ox,vU,RN,TV,xI,Ns,TU,vT,wM,Nt,uf,Nv,TW,vV,yU,RP,ve,xB,Po,uE,OR,X1,xH,Option.getD_some,g0,g1,g2,g3,g4,g5,g6,g7,g8,g9,g10,g11,g12,g13,g14,g15,q0,q1,q2,q3,q4,q5,q6,q7,q8,q9,q10,q11,q12,q13,q14,q15,z0,z1,z2,z3,z4,z5,z6,z7,z8,z9,z10,z11,z12,z13,z14,z15,decide_false,cond_false,ng,nv,cond_true]
 ·simp only[Nu,Ox,vU,RN,TV,xI,Ns,TU,vT,wM,Nt,uf,Nv,TW,vV,yU,RP,ve,xB,Po,uE,OR,X1,xH,g0,g1,g2,g3,g4,g5,g6,g7,g8,g9,g10,g11,g12,g13,g14,g15,q0,q1,q2,q3,q4,q5,q6,q7,q8,q9,q10,q11,q12,q13,q14,q15,z0,z1,z2,z3,z4,z5,z6,z7,z8,z9,z10,z11,z12,z13,z14,z15,decide_false,cond_false,ng,nv,cond_true,Option.getD_some]
theorem foldl_push (q:List DC→List DC):∀(l o:Rows),l.foldl (fun o r=>o++[q r]) o=o++l.map q
 | [],o=>by simp
 | r::l,o=>by rw[List.foldl_cons,foldl_push q l,List.map_cons,List.append_assoc];rfl
def TC (k_:Bool→α) (x:Rows) (oA q_5 q_6 q_7:Int) (q_8:Rows) (oL:Int→Int→Rows→α) (left oO:Int) (all:Rows):α:=
 bif decide (oO<oA) then
  bif Ec true (idx oO x) then
   bif bif decide (rI (nth x (Int.toNat oO)) 1<1) then true else bif decide (left<rI (nth x (Int.toNat oO)) 1) then true else !(nj (rI (nth x (Int.toNat oO)) 0) 0 65535) then k_ false
   else bif Ec true (qS 8 all (rR (nth x (Int.toNat oO)) 2)) then
     oL (nS (left - (rI (nth x (Int.toNat oO)) 1))) (nS (oO+1)) (all++(rR (nth x (Int.toNat oO)) 2))
    else kd
  else kd
 else bif Ec true (X0 (⟨q_5,q_6,q_7,q_8⟩:nE) all) then
   k_ ((rV (⟨q_5,q_6,q_7,q_8⟩:nE) all).2)
  else kd
def xi (k_:Bool→α) (N:Nat) (x:Rows) (oA q_5 q_6 q_7:Int) (q_8:Rows) (m_:Nat):Int→Int→Rows→α:=
 Nat.rec (motive:=fun _=>Int→Int→Rows→α) (fun _ _ _=>kd) (fun _ oL=>TC kd k_ x oA q_5 q_6 q_7 q_8 oL) m_
theorem nc4 (k_:Bool→α) (N:Nat) (x:Rows) (oA q_5 q_6 q_7:Int) (q_8:Rows) (m_:Nat):xi kd k_ N x oA q_5 q_6 q_7 q_8 (m_+1)=TC kd k_ x oA q_5 q_6 q_7 q_8 (xi kd k_ N x oA q_5 q_6 q_7 q_8 m_):=rfl
def nc5 {α:Type} (kd:α) (k_:Bool→α) (l0:Rows→Int→Int→Int→Int→Rows→Int→Int→Rows→α) (q:nn):α:=
 bif bif !(uc q.Ring) then true else bif !(tU q.nP) then true else !(nj q.Next 0 65535) then k_ false
 else l0 q.ny (len q.ny) q.nP.oM q.nP.nI q.nP.Count q.nP.pN q.Ring.nI 0 []
def nm6 (k_:Bool→α) (N:Nat) (q:nn):α:=nc5 kd k_ (fun x oA q_5 q_6 q_7 q_8=>xi kd k_ N x oA q_5 q_6 q_7 q_8 N) q
def npU:Rows→Nat
 | []=>0
 | r::rs=>(rR r 2).length+npU rs
def Ro:Rows→Rows
 | []=>[]
 | r::rs=>rR r 2++Ro rs
def R_:Rows→Int
 | []=>0
 | r::rs=>rI r 1+R_ rs
def SM (q:nn):Bool:=decide (q.nP.pN.length≤1048576) && (sm q.ny && decide (npU q.ny≤1048576))
theorem nvD {q:nn} (h:SM q=true):sm q.nP.pN=true∧q.ny.length≤16777216∧npU q.ny≤16777216:=by
 simp only[SM,Bool.and_eq_true,decide_eq_true_eq] at h
 exact⟨decide_eq_true (by omega),uG h.2.1,by omega⟩
def wZ (n:Int) (r:List DC):Bool:=bif nj (rI r 1) 1 n then nj (rI r 0) 0 65535 else false
def ne3 (q:nn):Bool:=bif bif !(uc q.Ring) then true else bif !(tU q.nP) then true else !(nj q.Next 0 65535) then false
 else bif q.ny.all (wZ q.Ring.nI) then bif (rV q.nP (Ro q.ny)).2 then decide (R_ q.ny≤q.Ring.nI) else false else false
theorem drop_cons {l:Rows} {i:Nat} (h:i<l.length):l.drop i=nth l i::l.drop (i+1):=by
 rw[List.drop_eq_getElem_cons h]
 simp [nth,List.getD_eq_getElem?_getD,h]
theorem neU {l:Rows} {i:Nat} (h:i<l.length):npU (l.drop i)=(rR (nth l i) 2).length+npU (l.drop (i+1)):=by
 rw[drop_cons h]
 rfl
def txP (n:Int) (r:List DC) (_:Int×Rows):Bool:= !(wZ n r)
def txF (r:List DC) (s:Int×Rows):Int×Rows:=(s.1+rI r 1,s.2++rR r 2)
def txQ (r:List DC) (s:Int×Rows):Bool:=bif decide (rI r 1<1) then true else bif decide (s.1<rI r 1) then true else !(nj (rI r 0) 0 65535)
def txG (r:List DC) (s:Int×Rows):Int×Rows:=(s.1 - rI r 1,s.2++rR r 2)
theorem nwq {α:Type} (n:Int) (x:α) (fin:Int×Rows→α):∀(l:Rows) (s:Int×Rows),Tu (txP n) txF x fin l s=bif l.all (wZ n) then fin (s.1+R_ l,s.2++Ro l) else x
 | [],s=>by simp [Tu,R_,Ro]
 | r::rs,s=>by
  simp only[Tu,txP,List.all_cons]
  cases hs:wZ n r
  ·rfl
  ·rw[nwq n x fin rs]
   simp only[Bool.not_true,cond_false,Bool.true_and,txF,R_,Ro,Int.add_assoc,List.append_assoc]
theorem Rd {n:Int} {r:List DC} :wZ n r=true↔(1≤rI r 1∧rI r 1≤n)∧nj (rI r 0) 0 65535=true:=by
 unfold wZ
 cases h:nj (rI r 1) 1 n
 ·constructor
  ·intro h;cases h
  ·intro h'
   have:nj (rI r 1) 1 n=true:=pf.2 h'.1
   rw[h] at this
   cases this
 ·have:=pf.1 h
  simp only[cond_true]
  exact⟨fun h'=>⟨this,h'⟩,fun h'=>h'.2⟩
theorem nkm {n:Int} :∀ {l:Rows},l.all (wZ n)=true→0≤R_ l
 | [],_=>by simp [R_]
 | r::rs,h=>by
  simp only[List.all_cons,Bool.and_eq_true] at h
  have:=nkm h.2
  have:=(Rd.1 h.1).1
  simp only[R_]
  omega
theorem nvC {α:Type} (n:Int) (x:α) (fin:Rows→α):∀(l:Rows) (s:Int×Rows),s.1≤n→0≤s.1→Tu txQ txG x (fun s=>fin s.2) l s=bif l.all (wZ n) then bif decide (R_ l≤s.1) then fin (s.2++Ro l) else x else x
 | [],s,h1,h2=>by
  have:decide (R_ []≤s.1)=true:=decide_eq_true h2
  simp only[Tu,List.all_nil,cond_true,Ro,List.append_nil,this]
 | r::rs,s,h1,h2=>by
  simp only[Tu,List.all_cons]
  by_cases a1:rI r 1<1
  ·have e:wZ n r=false:=by
    cases hs:wZ n r
    ·rfl
    ·have:=(Rd.1 hs).1;omega
   rw[e]
   simp only[txQ,decide_eq_true a1,cond_true,Bool.false_and,cond_false]
  ·cases hb:nj (rI r 0) 0 65535
   ·have e:wZ n r=false:=by
     cases hs:wZ n r
     ·rfl
     ·have:=(Rd.1 hs).2;rw[hb] at this;cases this
    rw[e]
    have:txQ r s=true:=by
     simp only[txQ,decide_eq_false a1,hb,cond_false,Bool.not_false]
     cases decide (s.1<rI r 1)<;>rfl
    rw[this]
    rfl
   ·by_cases a2:s.1<rI r 1
    ·have:txQ r s=true:=by simp only[txQ,decide_eq_false a1,decide_eq_true a2,cond_false,cond_true]
     rw[this,cond_true]
     cases hr:(wZ n r && rs.all (wZ n))
     ·rfl
     ·simp only[Bool.and_eq_true] at hr
      have:=nkm hr.2
      rw[cond_true,decide_eq_false (by simp only[R_];omega)]
      rfl
    ·have:txQ r s=false:=by simp only[txQ,decide_eq_false a1,decide_eq_false a2,hb,cond_false,Bool.not_true]
     have e:wZ n r=true:=Rd.2 ⟨⟨by omega,by omega⟩,hb⟩
     rw[this,cond_false,e,Bool.true_and]
     have ih:=nvC n x fin rs (txG r s) (by simp only[txG];omega) (by simp only[txG];omega)
     rw[ih]
     have ed:decide (R_ rs≤(txG r s).1)=decide (R_ (r::rs)≤s.1):=by
      have:R_ rs≤(txG r s).1↔R_ (r::rs)≤s.1:=by simp only[txG,R_];omega
      exact decide_eq_decide.2 this
     rw[ed]
     simp only[txG,Ro,List.append_assoc]
theorem nuC (k_:Bool→α) (q:nn) (h_q:ka nn.ct q.enc) (aJ:SM q=true):∃N,nm6 kd k_ N q=k_ (ne3 q):=by
 have hq:SM q=true:=aJ
 obtain⟨hf,hwn,hbn⟩:=nvD hq
 obtain⟨hl,hw⟩:=oS (nn.Rl h_q)
 refine⟨q.ny.length+1, ?_⟩
 unfold nm6 nc5 ne3
 refine qP (fun _=>rfl) (fun hg=> ?_)
 have hn:2≤q.Ring.nI∧q.Ring.nI≤16:=by
  cases h1:uc q.Ring
  ·rw[h1] at hg;cases hg
  exact RM h1
 have nw2:∀all:Rows,all.length≤16777216→X0 q.nP all=true:=by
  intro all h
  have:=uG hf
  simp only[X0,hf,Bool.true_and,decide_eq_true_eq]
  omega
 have key:xi kd k_ (q.ny.length+1) q.ny (len q.ny) q.nP.oM q.nP.nI q.nP.Count q.nP.pN (q.ny.length+1) q.Ring.nI 0 []=Tu txQ txG (k_ false) (fun s=>k_ (rV q.nP s.2).2) q.ny (q.Ring.nI,[]):=by
  refine njY q.ny (fun n i (s:Int×Rows)=>xi kd k_ (q.ny.length+1) q.ny (len q.ny) q.nP.oM q.nP.nI q.nP.Count q.nP.pN n s.1 i s.2) txQ txG (k_ false) (fun s=>k_ (rV q.nP s.2).2) (fun i s=>0≤s.1∧s.1≤16∧s.2.length+npU (q.ny.drop i)≤16777216) ?_ ?_ ?_ (q.Ring.nI,[]) ⟨by omega,by omega,by simpa using hbn⟩
  ·intro i s h hi hp
   have hb:=neU h
   obtain⟨i1,i2,i3⟩:=hi
   have h1:¬rI (nth q.ny i) 1<1:=by
    intro hc;simp only[txQ,decide_eq_true hc,cond_true] at hp;cases hp
   have h2:¬s.1<rI (nth q.ny i) 1:=by
    intro hc;simp only[txQ,decide_eq_false h1,decide_eq_true hc,cond_true,cond_false] at hp;cases hp
   refine⟨by simp only[txG];omega,by simp only[txG];omega, ?_⟩
   simp only[txG,List.length_append]
   omega
  ·intro n i s h hi
   obtain⟨i1,i2,i3⟩:=hi
   have hb:=neU h
   show xi kd k_ (q.ny.length+1) q.ny (len q.ny) q.nP.oM q.nP.nI q.nP.Count q.nP.pN (n+1) s.1 (i:Int) s.2=_
   rw[nc4]
   have hr:qS 8 s.2 (rR (nth q.ny i) 2)=true:=NK (by omega) (by omega)
   simp only[TC,pL h,n9 h,oE h hl,Int.toNat_natCast,ng,nv,cond_true,hr]
   refine cond_congr rfl (fun _=>rfl) (fun hp=> ?_)
   have h1:¬rI (nth q.ny i) 1<1:=by
    intro hc;simp only[decide_eq_true hc,cond_true] at hp;cases hp
   have h2:¬s.1<rI (nth q.ny i) 1:=by
    intro hc;simp only[decide_eq_false h1,decide_eq_true hc,cond_true,cond_false] at hp;cases hp
   rw[nJ (n:=s.1 - rI (nth q.ny i) 1) (by omega) (by omega)]
   rfl
  ·intro n s hi
   obtain⟨i1,i2,i3⟩:=hi
   show xi kd k_ (q.ny.length+1) q.ny (len q.ny) q.nP.oM q.nP.nI q.nP.Count q.nP.pN (n+1) s.1 (q.ny.length:Int) s.2=_
   rw[nc4]
   have hg:X0 (⟨q.nP.oM,q.nP.nI,q.nP.Count,q.nP.pN⟩:nE) s.2=true:=nw2 s.2 (by omega)
   simp only[TC,nX,cond_false,hg,ng,cond_true]
 refine key.trans ?_
 refine (nvC q.Ring.nI (k_ false) (fun all=>k_ (rV q.nP all).2) q.ny (q.Ring.nI,[]) (by simp) (by show 0≤q.Ring.nI;omega)).trans ?_
 simp only[List.nil_append]
 cases q.ny.all (wZ q.Ring.nI)
 ·rfl
 ·cases hd:decide (R_ q.ny≤q.Ring.nI)
  ·simp only[cond_true,cond_false]
   cases (rV q.nP (Ro q.ny)).2<;>rfl
  ·simp only[cond_true]
   cases (rV q.nP (Ro q.ny)).2<;>rfl
def TD (k_:Bool→α) (q_2 q_5 q_6 q_7:Int) (q_8 XR:Rows) (oL:Int→Int→Rows→α) (bZ k:Int) (all:Rows):α:=
 bif decide (k<len XR) then
  bif Ec true (idx k XR) then
   bif bif !(nj (rI (nth XR (Int.toNat k)) 1) 1 q_2) then true else !(nj (rI (nth XR (Int.toNat k)) 0) 0 65535) then k_ false
   else bif Ec true (qS 8 all (rR (nth XR (Int.toNat k)) 2)) then
     oL (nS (bZ+(rI (nth XR (Int.toNat k)) 1))) (nS (k+1)) (all++(rR (nth XR (Int.toNat k)) 2))
    else kd
  else kd
 else bif Ec true (X0 (⟨q_5,q_6,q_7,q_8⟩:nE) all) then
   k_ (bif (rV (⟨q_5,q_6,q_7,q_8⟩:nE) all).2 then decide (bZ≤q_2) else false)
  else kd
def xA (k_:Bool→α) (N:Nat) (q_2 q_5 q_6 q_7:Int) (q_8 XR:Rows) (m_:Nat):Int→Int→Rows→α:=
 Nat.rec (motive:=fun _=>Int→Int→Rows→α) (fun _ _ _=>kd) (fun _ oL=>TD kd k_ q_2 q_5 q_6 q_7 q_8 XR oL) m_
theorem nem (k_:Bool→α) (N:Nat) (q_2 q_5 q_6 q_7:Int) (q_8 XR:Rows) (m_:Nat):xA kd k_ N q_2 q_5 q_6 q_7 q_8 XR (m_+1)=TD kd k_ q_2 q_5 q_6 q_7 q_8 XR (xA kd k_ N q_2 q_5 q_6 q_7 q_8 XR m_):=rfl
def nen {α:Type} (kd:α) (k_:Bool→α) (l0:Int→Int→Int→Int→Rows→Rows→Int→Int→Rows→α) (q:nn):α:=
 bif bif !(uc q.Ring) then true else bif !(tU q.nP) then true else !(nj q.Next 0 65535) then k_ false
 else l0 q.Ring.nI q.nP.oM q.nP.nI q.nP.Count q.nP.pN q.ny 0 0 []
def nnd (k_:Bool→α) (N:Nat) (q:nn):α:=nen kd k_ (fun q_2 q_5 q_6 q_7 q_8 XR=>xA kd k_ N q_2 q_5 q_6 q_7 q_8 XR N) q
theorem nuQ (k_:Bool→α) (q:nn) (h_q:ka nn.ct q.enc) (aJ:SM q=true):∃N,nnd kd k_ N q=k_ (ne3 q):=by
 have hq:SM q=true:=aJ
 obtain⟨hf,hwn,hbn⟩:=nvD hq
 obtain⟨hl,hw⟩:=oS (nn.Rl h_q)
 refine⟨q.ny.length+1, ?_⟩
 unfold nnd nen ne3
 refine qP (fun _=>rfl) (fun hg=> ?_)
 have hn:2≤q.Ring.nI∧q.Ring.nI≤16:=by
  cases h1:uc q.Ring
  ·rw[h1] at hg;cases hg
  exact RM h1
 have nw2:∀all:Rows,all.length≤16777216→X0 q.nP all=true:=by
  intro all h
  have:=uG hf
  simp only[X0,hf,Bool.true_and,decide_eq_true_eq]
  omega
 have key:xA kd k_ (q.ny.length+1) q.Ring.nI q.nP.oM q.nP.nI q.nP.Count q.nP.pN q.ny (q.ny.length+1) 0 0 []=Tu (txP q.Ring.nI) txF (k_ false) (fun s=>k_ (bif (rV q.nP s.2).2 then decide (s.1≤q.Ring.nI) else false)) q.ny (0,[]):=by
  refine njY q.ny (fun n i (s:Int×Rows)=>xA kd k_ (q.ny.length+1) q.Ring.nI q.nP.oM q.nP.nI q.nP.Count q.nP.pN q.ny n s.1 i s.2) (txP q.Ring.nI) txF (k_ false) (fun s=>k_ (bif (rV q.nP s.2).2 then decide (s.1≤q.Ring.nI) else false)) (fun i s=>0≤s.1∧s.1≤16*(i:Int)∧s.2.length+npU (q.ny.drop i)≤16777216) ?_ ?_ ?_ (0,[]) ⟨by simp,by simp,by simpa using hbn⟩
  ·intro i s h hi hp
   have hb:=neU h
   obtain⟨i1,i2,i3⟩:=hi
   have h1:wZ q.Ring.nI (nth q.ny i)=true:=by simpa [txP] using hp
   have h2:=(Rd.1 h1).1
   refine⟨by simp only[txF];omega,by simp only[txF];omega, ?_⟩
   simp only[txF,List.length_append]
   omega
  ·intro n i s h hi
   obtain⟨i1,i2,i3⟩:=hi
   have hb:=neU h
   show xA kd k_ (q.ny.length+1) q.Ring.nI q.nP.oM q.nP.nI q.nP.Count q.nP.pN q.ny (n+1) s.1 (i:Int) s.2=_
   rw[nem]
   have hr:qS 8 s.2 (rR (nth q.ny i) 2)=true:=NK (by omega) (by omega)
   simp only[TD,pL h,n9 h,oE h hl,Int.toNat_natCast,ng,nv,cond_true,hr,txP]
   have hc:(bif !(nj (rI (nth q.ny i) 1) 1 q.Ring.nI) then true else !(nj (rI (nth q.ny i) 0) 0 65535))= !(wZ q.Ring.nI (nth q.ny i)):=by
    unfold wZ
    cases nj (rI (nth q.ny i) 1) 1 q.Ring.nI<;>rfl
   rw[hc]
   refine cond_congr rfl (fun _=>rfl) (fun hp=> ?_)
   have h1:wZ q.Ring.nI (nth q.ny i)=true:=by simpa using hp
   have h2:=(Rd.1 h1).1
   rw[nJ (n:=s.1+rI (nth q.ny i) 1) (by omega) (by omega)]
   rfl
  ·intro n s hi
   obtain⟨i1,i2,i3⟩:=hi
   show xA kd k_ (q.ny.length+1) q.Ring.nI q.nP.oM q.nP.nI q.nP.Count q.nP.pN q.ny (n+1) s.1 (q.ny.length:Int) s.2=_
   rw[nem]
   have hg:X0 (⟨q.nP.oM,q.nP.nI,q.nP.Count,q.nP.pN⟩:nE) s.2=true:=nw2 s.2 (by omega)
   simp only[TD,nX,cond_false,hg,ng,cond_true]
 refine key.trans ?_
 refine (nwq q.Ring.nI (k_ false) (fun s=>k_ (bif (rV q.nP s.2).2 then decide (s.1≤q.Ring.nI) else false)) q.ny (0,[])).trans ?_
 simp only[List.nil_append,Int.zero_add]
 exact J5 rfl rfl
def Qv (k_:Int→α) (x:Int) (oO:Rows) (oL:Int→Int→α) (n oA:Int):α:=
 bif decide (oA<x) then
  bif Ec (Ec true (idx oA oO)) (inl (Int.toNat oA) oO) then
   bif Ec true (zR (rI (nth oO (Int.toNat oA)) 0) 8) then
    oL (nS (n+(XQ (rI (nth oO (Int.toNat oA)) 0) 8))) (nS (oA+1))
   else kd
  else kd
 else k_ (Int.tmod n 8)
def tX (k_:Int→α) (N:Nat) (x:Int) (oO:Rows) (m_:Nat):Int→Int→α:=
 Nat.rec (motive:=fun _=>Int→Int→α) (fun _ _=>kd) (fun _ oL=>Qv kd k_ x oO oL) m_
theorem T6 (k_:Int→α) (N:Nat) (x:Int) (oO:Rows) (m_:Nat):tX kd k_ N x oO (m_+1)=Qv kd k_ x oO (tX kd k_ N x oO m_):=rfl
def Sh {α:Type} (kd:α) (k_:Int→α) (l0:Int→Rows→Int→Int→α) (f:nO):α:=
 l0 5 ([[.int f.Kind],[.int f.rk],[.int f.rK],[.int f.ph],[.int f.pg]]) 0 0
def naL (k_:Int→α) (N:Nat) (f:nO):α:=Sh kd k_ (fun x oO=>tX kd k_ N x oO N) f
def hmL (f:nO):Rows:=[[.int f.Kind],[.int f.rk],[.int f.rK],[.int f.ph],[.int f.pg]]
def hmN (f:nO):Int:=f.Kind % 8+f.rk % 8+f.rK % 8+f.ph % 8+f.pg % 8
def rn (f:nO):Int:=hmN f % 8
theorem nmV (f:nO):0≤hmN f:=by unfold hmN;omega
theorem Z_ (f:nO):0≤rn f∧rn f<8:=by unfold rn;omega
theorem nmU (f:nO):itN (fun i s=>s+(rI (nth (hmL f) i) 0) % 8) 5 0 0=hmN f:=by
 show 0+f.Kind % 8+f.rk % 8+f.rK % 8+f.ph % 8+f.pg % 8=hmN f
 unfold hmN
 omega
theorem nnq (k_:Int→α) (f:nO) (h_f:ka nO.ct f.enc):∃N,naL kd k_ N f=k_ (rn f):=by
 have hb:∀i,i<5→ -9223372036854775808≤rI (nth (hmL f) i) 0∧rI (nth (hmL f) i) 0≤9223372036854775807:=by
  intro i hi
  rcases i with _ | _ | _ | _ | _ | i
  ·exact wy (nO.npK h_f)
  ·exact wy (nO.nkt h_f)
  ·exact wy (nO.nsa h_f)
  ·exact wy (nO.nif h_f)
  ·exact wy (nO.nie h_f)
  ·omega
 refine⟨6, ?_⟩
 unfold naL Sh
 have key:tX kd k_ 6 5 (hmL f) 6 0 0=k_ (Int.tmod (itN (fun i s=>s+(rI (nth (hmL f) i) 0) % 8) 5 0 0) 8):=by
  refine xL 5 (fun n i s=>tX kd k_ 6 5 (hmL f) n s i) (fun i s=>s+(rI (nth (hmL f) i) 0) % 8) (fun s=>k_ (Int.tmod s 8)) (fun i s=>0≤s∧s≤7*(i:Int)) ?_ ?_ ?_ 6 0 ⟨by omega,by omega⟩ (by omega)
  ·intro i s hi hs
   obtain⟨h1,h2⟩:=hs
   refine⟨by omega,by omega⟩
  ·intro n i s hi hs
   obtain⟨h1,h2⟩:=hs
   have b:=hb i hi
   show tX kd k_ 6 5 (hmL f) (n+1) s (i:Int)=_
   rw[T6]
   have hl:i<(hmL f).length:=hi
   have w1:nS ((i:Int)+1)=(i:Int)+1:=nJ (by omega) (by omega)
   have w2:nS (s+(rI (nth (hmL f) i) 0) % 8)=s+(rI (nth (hmL f) i) 0) % 8:=nJ (by omega) (by omega)
   obtain⟨m1,m2⟩:=Vl (x:=rI (nth (hmL f) i) 0) (n:=8) b.1 b.2 (by omega) (by omega)
   have hd:decide ((i:Int)<5)=true:=decide_eq_true (by omega)
   simp only[Qv,hd,n9 hl,sF hl,Int.toNat_natCast,m1,m2,w1,w2,ng,nv,cond_true]
  ·intro n s hs
   show tX kd k_ 6 5 (hmL f) (n+1) s ((5:Nat):Int)=_
   rw[T6]
   rfl
 refine key.trans ?_
 rw[nmU]
 exact congrArg k_ (Int.tmod_eq_emod_of_nonneg (nmV f))
def Re (k_:Int→α) (nc:Rows) (oL:Int→Int→α) (n k:Int):α:=
 bif decide (k<len nc) then
  bif Ec (Ec true (idx k nc)) (inl (Int.toNat k) nc) then
   oL (nS (n+(bits .and .i64 (rI (nth nc (Int.toNat k)) 0) 7))) (nS (k+1))
  else kd
 else k_ (Int.tmod n 8)
def t3 (k_:Int→α) (N:Nat) (nc:Rows) (m_:Nat):Int→Int→α:=
 Nat.rec (motive:=fun _=>Int→Int→α) (fun _ _=>kd) (fun _ oL=>Re kd k_ nc oL) m_
theorem Vs (k_:Int→α) (N:Nat) (nc:Rows) (m_:Nat):t3 kd k_ N nc (m_+1)=Re kd k_ nc (t3 kd k_ N nc m_):=rfl
def SE {α:Type} (kd:α) (k_:Int→α) (l0:Rows→Int→Int→α) (f:nO):α:=
 l0 ([[.int f.Kind],[.int f.rk],[.int f.rK],[.int f.ph],[.int f.pg]]) 0 0
def ncc (k_:Int→α) (N:Nat) (f:nO):α:=SE kd k_ (fun nc=>t3 kd k_ N nc N) f
theorem npd (k_:Int→α) (f:nO) (h_f:ka nO.ct f.enc):∃N,ncc kd k_ N f=k_ (rn f):=by
 have hb:∀i,i<5→ -9223372036854775808≤rI (nth (hmL f) i) 0∧rI (nth (hmL f) i) 0≤9223372036854775807:=by
  intro i hi
  rcases i with _ | _ | _ | _ | _ | i
  ·exact wy (nO.npK h_f)
  ·exact wy (nO.nkt h_f)
  ·exact wy (nO.nsa h_f)
  ·exact wy (nO.nif h_f)
  ·exact wy (nO.nie h_f)
  ·omega
 refine⟨6, ?_⟩
 unfold ncc SE
 have key:t3 kd k_ 6 (hmL f) 6 0 0=k_ (Int.tmod (itN (fun i s=>s+(rI (nth (hmL f) i) 0) % 8) 5 0 0) 8):=by
  refine xL 5 (fun n i s=>t3 kd k_ 6 (hmL f) n s i) (fun i s=>s+(rI (nth (hmL f) i) 0) % 8) (fun s=>k_ (Int.tmod s 8)) (fun i s=>0≤s∧s≤7*(i:Int)) ?_ ?_ ?_ 6 0 ⟨by omega,by omega⟩ (by omega)
  ·intro i s hi hs
   obtain⟨h1,h2⟩:=hs
   refine⟨by omega,by omega⟩
  ·intro n i s hi hs
   obtain⟨h1,h2⟩:=hs
   have b:=hb i hi
   show t3 kd k_ 6 (hmL f) (n+1) s (i:Int)=_
   rw[Vs]
   have hl:i<(hmL f).length:=hi
   have w1:nS ((i:Int)+1)=(i:Int)+1:=nJ (by omega) (by omega)
   have w2:nS (s+(rI (nth (hmL f) i) 0) % 8)=s+(rI (nth (hmL f) i) 0) % 8:=nJ (by omega) (by omega)
   have hd:decide ((i:Int)<len (hmL f))=true:=pL hl
   simp only[Re,hd,n9 hl,sF hl,Int.toNat_natCast,nv3,w1,w2,ng,nv,cond_true]
  ·intro n s hs
   show t3 kd k_ 6 (hmL f) (n+1) s ((5:Nat):Int)=_
   rw[Vs]
   rfl
 refine key.trans ?_
 rw[nmU]
 exact congrArg k_ (Int.tmod_eq_emod_of_nonneg (nmV f))
def PI (k_:Int→α) (x:Rows) (oA xR Sb wz TQ TR:Int) (oL:Int→α) (oO:Int):α:=
 bif decide (oO<oA) then
  bif Ec true (idx oO x) then
   bif bif (rI (nth x (Int.toNat oO)) 0)==1 then bif (rI (nth x (Int.toNat oO)) 1)==xR then bif (rI (nth x (Int.toNat oO)) 2)==Sb then bif (rI (nth x (Int.toNat oO)) 3)==wz then bif (rI (nth x (Int.toNat oO)) 4)==TQ then bif (rI (nth x (Int.toNat oO)) 5)==TR then true else false else false else false else false else false else false then k_ oO
   else oL (nS (oO+1))
  else kd
 else k_ (-1)
def y4 (k_:Int→α) (N:Nat) (x:Rows) (oA xR Sb wz TQ TR:Int) (m_:Nat):Int→α:=
 Nat.rec (motive:=fun _=>Int→α) (fun _=>kd) (fun _ oL=>PI kd k_ x oA xR Sb wz TQ TR oL) m_
theorem Yq (k_:Int→α) (N:Nat) (x:Rows) (oA xR Sb wz TQ TR:Int) (m_:Nat):y4 kd k_ N x oA xR Sb wz TQ TR (m_+1)=PI kd k_ x oA xR Sb wz TQ TR (y4 kd k_ N x oA xR Sb wz TQ TR m_):=rfl
def Xz {α:Type} (kd:α) (k_:Int→α) (l0:Rows→Int→Int→Int→Int→Int→Int→Int→α) (t:ni) (f:nO):α:=
 l0 t.nC (len t.nC) f.Kind f.rk f.rK f.ph f.pg 0
def nf5 (k_:Int→α) (N:Nat) (t:ni) (f:nO):α:=Xz kd k_ (fun x oA xR Sb wz TQ TR=>y4 kd k_ N x oA xR Sb wz TQ TR N) t f
def wx (r:List DC) (f:nO):Bool:=bif (rI r 0)==1 then bif (rI r 1)==f.Kind then bif (rI r 2)==f.rk then bif (rI r 3)==f.rK then bif (rI r 4)==f.ph then bif (rI r 5)==f.pg then true else false else false else false else false else false else false
def nhQ (t:ni) (f:nO):Int:=findIdx (fun _ r=>wx r f) t.nC 0
theorem nsv (k_:Int→α) (t:ni) (f:nO) (h_t:ka ni.ct t.enc):∃N,nf5 kd k_ N t f=k_ (nhQ t f):=by
 obtain⟨hl,_⟩:=oS (ni.VP h_t)
 refine⟨t.nC.length+1, ?_⟩
 unfold nf5 Xz nhQ
 have key:y4 kd k_ (t.nC.length+1) t.nC (len t.nC) f.Kind f.rk f.rK f.ph f.pg (t.nC.length+1) 0=k_ (findIdx (fun _ r=>wx r f) t.nC 0):=by
  refine (sJ t.nC (y4 kd k_ (t.nC.length+1) t.nC (len t.nC) f.Kind f.rk f.rK f.ph f.pg) (fun i r c=>bif wx r f then k_ (i:Int) else c) (k_ (-1)) ?_ ?_).trans ?_
  ·intro n i h
   rw[Yq]
   simp only[PI,pL h,n9 h,oE h hl,Int.toNat_natCast,ng,nv,cond_true]
   rfl
  ·intro n
   rw[Yq]
   simp only[PI,nX,cond_false]
  ·exact naf (fun _ r=>wx r f) k_ t.nC 0
 exact key
def SK (k_:Int→α) (uQ:Rows) (xR Sb wz TQ TR:Int) (oL:Int→α) (k:Int):α:=
 let z0:Int:=Int.tmod (nS ((rn (⟨xR,Sb,wz,TQ,TR⟩:nO))+k)) 8
 let z1:Bool:=idx z0 uQ
 let z2:Bool:=Ec true z1
 let z3:List DC:=nth uQ (Int.toNat z0)
 let z4:Int:=rI z3 0
 let z5:Bool:=z4==1
 bif decide (k<8) then
  bif z2 then
   bif z4==0 then k_ (-1)
   else bif LV z5 (Ec z2 z1) z2 then
     bif bif z5 then bif (rI z3 1)==xR then bif (rI z3 2)==Sb then bif (rI z3 3)==wz then bif (rI z3 4)==TQ then bif (rI z3 5)==TR then true else false else false else false else false else false else false then k_ z0
     else oL (nS (k+1))
    else kd
  else kd
 else k_ (-1)
def uA (k_:Int→α) (N:Nat) (uQ:Rows) (xR Sb wz TQ TR:Int) (m_:Nat):Int→α:=
 Nat.rec (motive:=fun _=>Int→α) (fun _=>kd) (fun _ oL=>SK kd k_ uQ xR Sb wz TQ TR oL) m_
theorem W_ (k_:Int→α) (N:Nat) (uQ:Rows) (xR Sb wz TQ TR:Int) (m_:Nat):uA kd k_ N uQ xR Sb wz TQ TR (m_+1)=SK kd k_ uQ xR Sb wz TQ TR (uA kd k_ N uQ xR Sb wz TQ TR m_):=rfl
def VG {α:Type} (kd:α) (k_:Int→α) (l0:Rows→Int→Int→Int→Int→Int→Int→α) (t:ni) (f:nO):α:=
 l0 t.nC f.Kind f.rk f.rK f.ph f.pg 0
def nex (k_:Int→α) (N:Nat) (t:ni) (f:nO):α:=VG kd k_ (fun uQ xR Sb wz TQ TR=>uA kd k_ N uQ xR Sb wz TQ TR N) t f
def nvs (t:ni) (_:nO):Bool:=decide (t.nC.length=8)
def nt4 (t:Rows) (h:Int) (f:nO):Nat→Nat→Int
 | 0,_=> -1
 | m+1,k=>bif (rI (nth t (Int.toNat ((h+(k:Int)) % 8))) 0)==0 then -1 else bif wx (nth t (Int.toNat ((h+(k:Int)) % 8))) f then (h+(k:Int)) % 8 else nt4 t h f m (k+1)
def naj (t:ni) (f:nO):Int:=nt4 t.nC (rn f) f 8 0
theorem nv_ {α:Type} (k_:Int→α) (t:Rows) (h:Int) (f:nO):∀(m i:Nat),nm7 (σ:=Unit) (fun k c s=>bif (rI (nth t (Int.toNat ((h+(k:Int)) % 8))) 0)==0 then k_ (-1) else bif wx (nth t (Int.toNat ((h+(k:Int)) % 8))) f then k_ ((h+(k:Int)) % 8) else c s) (fun _=>k_ (-1)) m i ()=k_ (nt4 t h f m i)
 | 0,_=>rfl
 | m+1,i=>by
  simp only[nm7,nt4]
  cases (rI (nth t (Int.toNat ((h+(i:Int)) % 8))) 0)==0
  ·cases wx (nth t (Int.toNat ((h+(i:Int)) % 8))) f
   ·exact nv_ k_ t h f m (i+1)
   ·rfl
  ·rfl
theorem nrQ (k_:Int→α) (t:ni) (f:nO) (aJ:nvs t f=true):∃N,nex kd k_ N t f=k_ (naj t f):=by
 have h8:t.nC.length=8:=of_decide_eq_true aJ
 have hh:=Z_ f
 refine⟨9, ?_⟩
 unfold nex VG naj
 have key:uA kd k_ 9 t.nC f.Kind f.rk f.rK f.ph f.pg 9 0=k_ (nt4 t.nC (rn f) f 8 0):=by
  refine (njX (σ:=Unit) 8 (fun n k _=>uA kd k_ 9 t.nC f.Kind f.rk f.rK f.ph f.pg n k) (fun k c s=>bif (rI (nth t.nC (Int.toNat ((rn f+(k:Int)) % 8))) 0)==0 then k_ (-1) else bif wx (nth t.nC (Int.toNat ((rn f+(k:Int)) % 8))) f then k_ ((rn f+(k:Int)) % 8) else c s) (fun _=>k_ (-1)) ?_ ?_ 9 () (by omega)).trans (nv_ k_ t.nC (rn f) f 8 0)
  ·intro n i s hi
   show uA kd k_ 9 t.nC f.Kind f.rk f.rK f.ph f.pg (n+1) (i:Int)=_
   rw[W_]
   have hd:decide ((i:Int)<8)=true:=decide_eq_true (by omega)
   have w1:nS ((i:Int)+1)=(i:Int)+1:=nJ (by omega) (by omega)
   have hz:Int.tmod (nS (rn f+(i:Int))) 8=(rn f+(i:Int)) % 8:=by
    rw[nJ (by omega) (by omega)]
    exact Int.tmod_eq_emod_of_nonneg (by omega)
   have hx:idx ((rn f+(i:Int)) % 8) t.nC=true:=by
    simp only[idx,Bool.and_eq_true,decide_eq_true_eq,h8]
    omega
   have hf:(⟨f.Kind,f.rk,f.rK,f.ph,f.pg⟩:nO)=f:=rfl
   unfold SK
   simp only[hf,hd,hz,hx,w1,ng,nv,PV,cond_true]
   rfl
  ·intro n s
   show uA kd k_ 9 t.nC f.Kind f.rk f.rK f.ph f.pg (n+1) ((8:Nat):Int)=_
   rw[W_]
   rfl
 exact key
def XA (k_:Rows→α) (xR Sb wz TQ TR:Int) (oL:Int→Rows→α) (i:Int) (n7:Rows):α:=
 bif decide (i<8) then
  bif Ec true (qS 8 n7 ([[.int (Int.tmod (nS ((rn (⟨xR,Sb,wz,TQ,TR⟩:nO))+i)) 8)]])) then
   oL (nS (i+1)) (n7++([[.int (Int.tmod (nS ((rn (⟨xR,Sb,wz,TQ,TR⟩:nO))+i)) 8)]]))
  else kd
 else k_ n7
def wj (k_:Rows→α) (N:Nat) (xR Sb wz TQ TR:Int) (m_:Nat):Int→Rows→α:=
 Nat.rec (motive:=fun _=>Int→Rows→α) (fun _ _=>kd) (fun _ oL=>XA kd k_ xR Sb wz TQ TR oL) m_
theorem nbm (k_:Rows→α) (N:Nat) (xR Sb wz TQ TR:Int) (m_:Nat):wj kd k_ N xR Sb wz TQ TR (m_+1)=XA kd k_ xR Sb wz TQ TR (wj kd k_ N xR Sb wz TQ TR m_):=rfl
def nah {α:Type} (kd:α) (k_:Rows→α) (l0:Int→Int→Int→Int→Int→Int→Rows→α) (f:nO):α:=
 l0 f.Kind f.rk f.rK f.ph f.pg 0 []
def niS (k_:Rows→α) (N:Nat) (f:nO):α:=nah kd k_ (fun xR Sb wz TQ TR=>wj kd k_ N xR Sb wz TQ TR N) f
def nwI (h:Int) (i:Nat) (o:Rows):Rows:=o++[[.int ((h+(i:Int)) % 8)]]
def Tv (f:nO):Rows:=itN (nwI (rn f)) 8 0 []
theorem nt1 (k_:Rows→α) (f:nO):∃N,niS kd k_ N f=k_ (Tv f):=by
 have hh:=Z_ f
 refine⟨9, ?_⟩
 unfold niS nah Tv
 have key:wj kd k_ 9 f.Kind f.rk f.rK f.ph f.pg 9 0 []=k_ (itN (nwI (rn f)) 8 0 []):=by
  refine xL 8 (fun n i o=>wj kd k_ 9 f.Kind f.rk f.rK f.ph f.pg n i o) (nwI (rn f)) k_ (fun i o=>o.length=i) ?_ ?_ ?_ 9 [] rfl (by omega)
  ·intro i o hi ho
   simp only[nwI,List.length_append,List.length_cons,List.length_nil,ho]
  ·intro n i o hi ho
   show wj kd k_ 9 f.Kind f.rk f.rK f.ph f.pg (n+1) (i:Int) o=_
   rw[nbm]
   have hd:decide ((i:Int)<8)=true:=decide_eq_true (by omega)
   have w1:nS ((i:Int)+1)=(i:Int)+1:=nJ (by omega) (by omega)
   have hz:Int.tmod (nS (rn f+(i:Int))) 8=(rn f+(i:Int)) % 8:=by
    rw[nJ (by omega) (by omega)]
    exact Int.tmod_eq_emod_of_nonneg (by omega)
   have hf:(⟨f.Kind,f.rk,f.rK,f.ph,f.pg⟩:nO)=f:=rfl
   have hr:qS 8 o [[.int ((rn f+(i:Int)) % 8)]]=true:=NK (by simp only[List.length_cons,List.length_nil];omega) (by omega)
   unfold XA
   simp only[hf,hd,hz,hr,w1,ng,nv,cond_true]
   rfl
  ·intro n o ho
   show wj kd k_ 9 f.Kind f.rk f.rK f.ph f.pg (n+1) ((8:Nat):Int) o=_
   rw[nbm]
   rfl
 exact key
def xE (k_:Bool→α) (l1:Int→Int→Int→Rows→Int→α) (x:Rows) (oA:Int) (uQ:Rows) (oL:Int→α) (oO:Int):α:=
 let z0:Rows:=Tv (nO.nd (nth x (Int.toNat oO)) 1)
 bif decide (oO<oA) then
  bif Ec true (idx oO x) then
   bif bif !(nj (rI (nth x (Int.toNat oO)) 0) 0 2) then true else !(nj (rI (nth x (Int.toNat oO)) 6) 0 3) then k_ false
   else bif (rI (nth x (Int.toNat oO)) 0) != 1 then
    bif bif !(bif (rI (nth x (Int.toNat oO)) 1)==0 then bif (rI (nth x (Int.toNat oO)) 2)==0 then bif (rI (nth x (Int.toNat oO)) 3)==0 then bif (rI (nth x (Int.toNat oO)) 4)==0 then bif (rI (nth x (Int.toNat oO)) 5)==0 then true else false else false else false else false else false) then true else (rI (nth x (Int.toNat oO)) 6) != 0 then k_ false
    else oL (nS (oO+1))
   else bif (nhQ (⟨uQ⟩:ni) (nO.nd (nth x (Int.toNat oO)) 1)) != oO then k_ false
   else l1 oO oO (len z0) z0 0
  else kd
 else k_ true
def xF (k_:Bool→α) (oL:Int→α) (oO VT x_6:Int) (uQ x_8:Rows) (ih1:Int→α) (x_7:Int):α:=
 bif decide (x_7<x_6) then
  bif Ec (Ec true (idx x_7 x_8)) (inl (Int.toNat x_7) x_8) then
   bif (rI (nth x_8 (Int.toNat x_7)) 0)==oO then oL (nS (VT+1))
   else bif Ec true (idx (rI (nth x_8 (Int.toNat x_7)) 0) uQ) then
     bif (rI (nth uQ (Int.toNat (rI (nth x_8 (Int.toNat x_7)) 0))) 0)==0 then k_ false
     else ih1 (nS (x_7+1))
    else kd
  else kd
 else oL (nS (VT+1))
def ux (k_:Bool→α) (N:Nat) (oL:Int→α) (oO VT x_6:Int) (uQ x_8:Rows) (m_:Nat):Int→α:=
 Nat.rec (motive:=fun _=>Int→α) (fun _=>kd) (fun _ ih1=>xF kd k_ oL oO VT x_6 uQ x_8 ih1) m_
theorem Wf (k_:Bool→α) (N:Nat) (oL:Int→α) (oO VT x_6:Int) (uQ x_8:Rows) (m_:Nat) (x_7:Int):ux kd k_ N oL oO VT x_6 uQ x_8 (m_+1) x_7=xF kd k_ oL oO VT x_6 uQ x_8 (ux kd k_ N oL oO VT x_6 uQ x_8 m_) x_7:=rfl
def tM (k_:Bool→α) (N:Nat) (x:Rows) (oA:Int) (uQ:Rows) (m_:Nat):Int→α:=
 Nat.rec (motive:=fun _=>Int→α) (fun _=>kd) (fun _ oL=>xE kd k_ (fun oO VT x_6 x_8=>ux kd k_ N oL oO VT x_6 uQ x_8 N) x oA uQ oL) m_
theorem We (k_:Bool→α) (N:Nat) (x:Rows) (oA:Int) (uQ:Rows) (m_:Nat) (oO:Int):tM kd k_ N x oA uQ (m_+1) oO=xE kd k_ (fun oO VT x_6 x_8=>ux kd k_ N (tM kd k_ N x oA uQ m_) oO VT x_6 uQ x_8 N) x oA uQ (tM kd k_ N x oA uQ m_) oO:=rfl
def PC {α:Type} (kd:α) (k_:Bool→α) (l0:Rows→Int→Rows→Int→α) (t:ni):α:=
 bif (len t.nC) != 8 then k_ false
 else l0 t.nC (len t.nC) t.nC 0
def PB (k_:Bool→α) (N:Nat) (t:ni):α:=PC kd k_ (fun x oA uQ=>tM kd k_ N x oA uQ N) t
theorem naa {p:Nat→List DC→Bool} :∀ {l:Rows} {s:Nat},rL p l s=false→∀i,i<l.length→p (s+i) (nth l i)=false
 | [],_,_,i,h=>by simp at h
 | r::rs,s,h,i,hi=>by
  simp only[rL] at h
  cases hp:p s r
  ·rw[hp,cond_false] at h
   cases i with
   | zero=>exact hp
   | succ i=>
    have:=naa h i (by simpa using hi)
    rw[show s+(i+1)=s+1+i by omega]
    exact this
  ·rw[hp] at h
   cases h
theorem ngJ {p:Nat→List DC→Bool} :∀ {l:Rows} {s:Nat},(∀i,i<l.length→p (s+i) (nth l i)=false)→rL p l s=false
 | [],_,_=>rfl
 | r::rs,s,h=>by
  simp only[rL]
  rw[show p s r=false from h 0 (by simp),cond_false]
  exact ngJ (fun i hi=>by
   have:=h (i+1) (by simpa using hi)
   rw[show s+1+i=s+(i+1) by omega]
   exact this)
def nmS (t:Rows) (i:Int):Rows→Bool
 | []=>false
 | r::rs=>bif (rI r 0)==i then false else bif (rI (nth t (Int.toNat (rI r 0))) 0)==0 then true else nmS t i rs
theorem nwa {α:Type} (t:Rows) (x:Int) (A B:α):∀(l:Rows) (j:Nat),x8 (σ:=Unit) (fun _ r c s=>bif (rI r 0)==x then A else bif (rI (nth t (Int.toNat (rI r 0))) 0)==0 then B else c s) (fun _=>A) l j ()=bif nmS t x l then B else A
 | [],_=>rfl
 | r::rs,j=>by
  simp only[x8,nmS]
  cases (rI r 0)==x
  ·cases (rI (nth t (Int.toNat (rI r 0))) 0)==0
   ·exact nwa t x A B rs (j+1)
   ·rfl
  ·rfl
def ntG (r:List DC):Bool:=bif (rI r 1)==0 then bif (rI r 2)==0 then bif (rI r 3)==0 then bif (rI r 4)==0 then bif (rI r 5)==0 then true else false else false else false else false else false
def neN (r:List DC):Bool:=bif !(nj (rI r 0) 0 2) then true else !(nj (rI r 6) 0 3)
def nhP (t:Rows) (i:Nat) (r:List DC):Bool:=bif neN r then true else bif (rI r 0) != 1 then bif !(ntG r) then true else (rI r 6) != 0 else bif (nhQ (⟨t⟩:ni) (nO.nd r 1)) != (i:Int) then true else nmS t (i:Int) (Tv (nO.nd r 1))
def nrr (t:Rows) (i:Nat) (r:List DC):Bool:=bif neN r then true else bif (rI r 0) != 1 then bif (rI r 6) != 0 then true else !(ntG r) else (naj (⟨t⟩:ni) (nO.nd r 1)) != (i:Int)
def zh (t:ni):Bool:=bif (len t.nC) != 8 then false else bif rL (nhP t.nC) t.nC 0 then false else true
def nvi (t:Rows) (h i:Int):Nat→Nat→Bool
 | 0,_=>false
 | m+1,k=>bif (h+(k:Int)) % 8==i then false else bif (rI (nth t (Int.toNat ((h+(k:Int)) % 8))) 0)==0 then true else nvi t h i m (k+1)
theorem ntB (t:Rows) (i:Int) (f:nO):nmS t i (Tv f)=nvi t (rn f) i 8 0:=rfl
theorem VN {r:List DC} {f:nO} :wx r f=true↔rI r 0=1∧nO.nd r 1=f:=by
 cases f with
 | mk a b c d e=>
  simp only[wx,nO.nd,nO.mk.injEq]
  by_cases h0:rI r 0=1
  ·by_cases h1:rI r 1=a
   ·by_cases h2:rI r 2=b
    ·by_cases h3:rI r 3=c
     ·by_cases h4:rI r 4=d
      ·by_cases h5:rI r 5=e
       ·simp [h0,h1,h2,h3,h4,h5]
       ·simp [h0,h1,h2,h3,h4,h5]
      ·simp [h0,h1,h2,h3,h4]
     ·simp [h0,h1,h2,h3]
    ·simp [h0,h1,h2]
   ·simp [h0,h1]
  ·simp [h0]
theorem nuW {r:List DC} (h:rI r 0=1):wx r (nO.nd r 1)=true:=VN.2 ⟨h,rfl⟩
theorem nuX {t:Rows} {h:Int} {f:nO} {i:Nat} (hi:i<8) (h1:rI (nth t i) 0=1) (hf:nO.nd (nth t i) 1=f)
  (hu:∀j,j<8→wx (nth t j) f=true→j=i):∀(m k:Nat),(∃d,d<m∧(h+(k:Int)+(d:Int)) % 8=(i:Int))→nvi t h (i:Int) m k=false→nt4 t h f m k=(i:Int)
 | 0,k,⟨d,hd,_⟩,_=>by omega
 | m+1,k,⟨d,hd,he⟩,hw=>by
  unfold nt4
  unfold nvi at hw
  by_cases hk:(h+(k:Int)) % 8=(i:Int)
  ·rw[hk,Int.toNat_natCast]
   have e0:((rI (nth t i) 0)==0)=false:=by rw[h1];rfl
   rw[e0,VN.2 ⟨h1,hf⟩]
   rfl
  ·have e1:((h+(k:Int)) % 8==(i:Int))=false:=by simpa using hk
   rw[e1,cond_false] at hw
   cases e0:(rI (nth t (Int.toNat ((h+(k:Int)) % 8))) 0)==0
   ·rw[e0,cond_false] at hw
    cases e2:wx (nth t (Int.toNat ((h+(k:Int)) % 8))) f
    ·simp only[cond_false]
     refine nuX hi h1 hf hu m (k+1) ⟨d - 1, ?_, ?_⟩ hw
     ·rcases d with _ | d
      ·exact absurd (by simpa using he) hk
      ·omega
     ·rcases d with _ | d
      ·exact absurd (by simpa using he) hk
      ·rw[←he]
       congr 1
       omega
    ·have:=hu _ (by omega) e2
     exact absurd (by omega) hk
   ·rw[e0] at hw
    cases hw
theorem nuy {t:Rows} {h:Int} {f:nO} {i:Nat} :∀(m k:Nat),nt4 t h f m k=(i:Int)→nvi t h (i:Int) m k=false
 | 0,_,_=>rfl
 | m+1,k,hl=>by
  unfold nt4 at hl
  unfold nvi
  cases e1:((h+(k:Int)) % 8==(i:Int))
  ·cases e0:(rI (nth t (Int.toNat ((h+(k:Int)) % 8))) 0)==0
   ·rw[e0,cond_false] at hl
    cases e2:wx (nth t (Int.toNat ((h+(k:Int)) % 8))) f
    ·rw[e2,cond_false] at hl
     exact nuy m (k+1) hl
    ·rw[e2,cond_true] at hl
     have:((h+(k:Int)) % 8==(i:Int))=true:=by simpa using hl
     rw[e1] at this
     cases this
   ·rw[e0,cond_true] at hl
    omega
  ·rfl
theorem nvA {t:Rows} {i:Nat} (h:i<t.length) (h1:rI (nth t i) 0=1):(nhQ (⟨t⟩:ni) (nO.nd (nth t i) 1) != (i:Int))=yN (fun j=>wx (nth t j) (nO.nd (nth t i) 1)) i 0:=by
 have:=ngK (fun _ r=>wx r (nO.nd (nth t i) 1)) t 0 i h (nuW h1)
 rw[Nat.zero_add] at this
 exact this
theorem TP {p:Nat→Bool} :∀ {m s:Nat},yN p m s=false↔∀j,s≤j→j<s+m→p j=false
 | 0,s=>by simp only[yN,true_iff];intro j h1 h2;omega
 | m+1,s=>by
  simp only[yN]
  cases hp:p s
  ·simp only[cond_false]
   rw[TP]
   constructor
   ·intro h j h1 h2
    by_cases hj:j=s
    ·rw[hj];exact hp
    ·exact h j (by omega) (by omega)
   ·intro h j h1 h2
    exact h j (by omega) (by omega)
  ·simp only[cond_true]
   constructor
   ·intro h;cases h
   ·intro h
    have:=h s (by omega) (by omega)
    rw[hp] at this
    cases this
theorem nvT {t:Rows} (h8:t.length=8):rL (nrr t) t 0=rL (nhP t) t 0:=by
 have zc:∀r:List DC,(bif !(ntG r) then true else (rI r 6) != 0)=(bif (rI r 6) != 0 then true else !(ntG r)):=by
  intro r
  cases ntG r<;>cases ((rI r 6) != 0)<;>rfl
 have sI:∀i,nhP t i (nth t i)=false→rI (nth t i) 0=1→neN (nth t i)=false∧yN (fun j=>wx (nth t j) (nO.nd (nth t i) 1)) i 0=false∧nvi t (rn (nO.nd (nth t i) 1)) (i:Int) 8 0=false∨¬i<t.length:=by
  intro i h h1
  by_cases hi:i<t.length
  ·left
   unfold nhP at h
   have e1:((rI (nth t i) 0) != 1)=false:=by rw[h1];rfl
   rw[e1,nvA hi h1,ntB] at h
   cases hs:neN (nth t i)
   ·rw[hs] at h
    simp only[cond_false] at h
    refine⟨rfl, ?_⟩
    cases ha:yN (fun j=>wx (nth t j) (nO.nd (nth t i) 1)) i 0
    ·rw[ha,cond_false] at h
     exact⟨rfl,h⟩
    ·rw[ha] at h;cases h
   ·rw[hs] at h;cases h
  ·exact .inr hi
 have sS:∀i,i<t.length→nrr t i (nth t i)=false→rI (nth t i) 0=1→neN (nth t i)=false∧naj (⟨t⟩:ni) (nO.nd (nth t i) 1)=(i:Int):=by
  intro i hi h h1
  unfold nrr at h
  have e1:((rI (nth t i) 0) != 1)=false:=by rw[h1];rfl
  rw[e1] at h
  cases hs:neN (nth t i)
  ·rw[hs] at h
   simp only[cond_false] at h
   exact⟨rfl,by simpa using h⟩
  ·rw[hs] at h;cases h
 cases hI:rL (nhP t) t 0
 ·have hI:=naa hI
  simp only[Nat.zero_add] at hI
  refine ngJ (fun i hi=> ?_)
  rw[Nat.zero_add]
  by_cases h1:rI (nth t i) 0=1
  ·rcases sI i (hI i hi) h1 with ⟨a,b,c⟩ | h
   ·have hu:∀j,j<8→wx (nth t j) (nO.nd (nth t i) 1)=true→j=i:=by
     intro j hj hq
     obtain⟨j1,j2⟩:=VN.1 hq
     rcases Nat.lt_trichotomy j i with cm | rfl | FW
     ·have:=TP.1 b j (by omega) (by omega)
      rw[hq] at this
      cases this
     ·rfl
     ·rcases sI j (hI j (by omega)) j1 with ⟨_,b',_⟩ | h
      ·have:=TP.1 b' i (by omega) (by omega)
       rw[VN.2 ⟨h1,j2.symm⟩] at this
       cases this
      ·omega
    have hf:naj (⟨t⟩:ni) (nO.nd (nth t i) 1)=(i:Int):=by
     have hh:=Z_ (nO.nd (nth t i) 1)
     refine nuX (by omega) h1 rfl hu 8 0 ⟨(((i:Int) - rn (nO.nd (nth t i) 1)) % 8).toNat,by omega,by omega⟩ c
    unfold nrr
    rw[a,hf,h1]
    simp
   ·exact absurd hi h
  ·have:=hI i hi
   unfold nhP at this
   unfold nrr
   have e1:((rI (nth t i) 0) != 1)=true:=by simpa using h1
   rw[e1] at this ⊢
   rw[zc] at this
   exact this
 ·cases hS:rL (nrr t) t 0
  ·have hS:=naa hS
   simp only[Nat.zero_add] at hS
   have:rL (nhP t) t 0=false:=by
    refine ngJ (fun i hi=> ?_)
    rw[Nat.zero_add]
    by_cases h1:rI (nth t i) 0=1
    ·obtain⟨a,b⟩:=sS i hi (hS i hi) h1
     have hu:yN (fun j=>wx (nth t j) (nO.nd (nth t i) 1)) i 0=false:=by
      refine TP.2 (fun j _ hj=> ?_)
      cases hq:wx (nth t j) (nO.nd (nth t i) 1)
      ·rfl
      ·obtain⟨j1,j2⟩:=VN.1 hq
       have:=(sS j (by omega) (hS j (by omega)) j1).2
       rw[j2,b] at this
       omega
     unfold nhP
     have e1:((rI (nth t i) 0) != 1)=false:=by rw[h1];rfl
     rw[a,e1,nvA hi h1,hu,ntB,nuy 8 0 b]
     rfl
    ·have:=hS i hi
     unfold nrr at this
     unfold nhP
     have e1:((rI (nth t i) 0) != 1)=true:=by simpa using h1
     rw[e1] at this ⊢
     rw[zc]
     exact this
   rw[hI] at this
   cases this
  ·rfl
theorem nqf (k_:Bool→α) (t:ni) (h_t:ka ni.ct t.enc):∃N,PB kd k_ N t=k_ (zh t):=by
 obtain⟨hl,_⟩:=oS (ni.VP h_t)
 refine⟨t.nC.length+9, ?_⟩
 unfold PB PC zh
 refine qP (fun _=>rfl) (fun hg=> ?_)
 have h8:t.nC.length=8:=by
  have:len t.nC=8:=by simpa using hg
  simp only[len] at this
  omega
 have key:tM kd k_ (t.nC.length+9) t.nC (len t.nC) t.nC (t.nC.length+9) 0=bif rL (nhP t.nC) t.nC 0 then k_ false else k_ true:=by
  refine (xp t.nC (tM kd k_ (t.nC.length+9) t.nC (len t.nC) t.nC) (fun i r c=>bif nhP t.nC i r then k_ false else c) (k_ true) ?_ ?_ (t.nC.length+9) (by omega)).trans (zk (nhP t.nC) (k_ false) (k_ true) t.nC 0)
  ·intro n i h
   rw[We]
   have hc:∀z:Int,rI (nth t.nC i) 0=z→True:=fun _ _=>trivial
   have hw8:(Tv (nO.nd (nth t.nC i) 1)).length=8:=rfl
   have inner:∀ih:Int→α,ux kd k_ (t.nC.length+9) ih (i:Int) (i:Int) (len (Tv (nO.nd (nth t.nC i) 1))) t.nC (Tv (nO.nd (nth t.nC i) 1)) (t.nC.length+9) 0=bif nmS t.nC (i:Int) (Tv (nO.nd (nth t.nC i) 1)) then k_ false else ih ((i:Int)+1):=by
    intro ih
    refine (xp (Tv (nO.nd (nth t.nC i) 1)) (ux kd k_ (t.nC.length+9) ih (i:Int) (i:Int) (len (Tv (nO.nd (nth t.nC i) 1))) t.nC (Tv (nO.nd (nth t.nC i) 1))) (fun j r c=>bif (rI r 0)==(i:Int) then ih ((i:Int)+1) else bif (rI (nth t.nC (Int.toNat (rI r 0))) 0)==0 then k_ false else c) (ih ((i:Int)+1)) ?_ ?_ (t.nC.length+9) (by omega)).trans (nwa t.nC (i:Int) (ih ((i:Int)+1)) (k_ false) (Tv (nO.nd (nth t.nC i) 1)) 0)
    ·intro n j hj
     rw[Wf]
     have hx:idx (rI (nth (Tv (nO.nd (nth t.nC i) 1)) j) 0) t.nC=true:=by
      have:rI (nth (Tv (nO.nd (nth t.nC i) 1)) j) 0=(rn (nO.nd (nth t.nC i) 1)+(j:Int)) % 8:=by
       rw[hw8] at hj
       rcases j with _ | _ | _ | _ | _ | _ | _ | _ | j
       all_goals first | rfl | omega
      rw[this]
      simp only[idx,Bool.and_eq_true,decide_eq_true_eq,h8]
      omega
     have w1:nS ((i:Int)+1)=(i:Int)+1:=oE h hl
     have w2:nS ((j:Int)+1)=(j:Int)+1:=nJ (by omega) (by omega)
     simp only[xF,pL hj,n9 hj,sF hj,hx,w1,w2,Int.toNat_natCast,ng,nv,cond_true]
    ·intro n
     rw[Wf]
     simp only[xF,nX,cond_false,oE h hl]
   unfold xE
   simp only[inner,pL h,n9 h,oE h hl,Int.toNat_natCast,ng,nv,cond_true]
   unfold nhP
   show (bif neN (nth t.nC i) then k_ false else _)=_
   cases neN (nth t.nC i)
   ·simp only[cond_false]
    cases ((rI (nth t.nC i) 0) != 1)
    ·simp only[cond_false]
     cases (nhQ (⟨t.nC⟩:ni) (nO.nd (nth t.nC i) 1) != (i:Int))<;>rfl
    ·rfl
   ·rfl
  ·intro n
   rw[We]
   simp only[xE,nX,cond_false]
 refine key.trans ?_
 exact J5 rfl rfl
def Ok (k_:Bool→α) (uQ:Rows) (oL:Int→α) (k:Int):α:=
 bif decide (k<len uQ) then
  bif Ec true (idx k uQ) then
   bif bif !(nj (rI (nth uQ (Int.toNat k)) 0) 0 2) then true else !(nj (rI (nth uQ (Int.toNat k)) 6) 0 3) then k_ false
   else bif (rI (nth uQ (Int.toNat k)) 0) != 1 then
    bif bif (rI (nth uQ (Int.toNat k)) 6) != 0 then true else !(bif (rI (nth uQ (Int.toNat k)) 1)==0 then bif (rI (nth uQ (Int.toNat k)) 2)==0 then bif (rI (nth uQ (Int.toNat k)) 3)==0 then bif (rI (nth uQ (Int.toNat k)) 4)==0 then bif (rI (nth uQ (Int.toNat k)) 5)==0 then true else false else false else false else false else false) then k_ false
    else oL (nS (k+1))
   else bif Ec true (nvs (⟨uQ⟩:ni) (nO.nd (nth uQ (Int.toNat k)) 1)) then
     bif (naj (⟨uQ⟩:ni) (nO.nd (nth uQ (Int.toNat k)) 1)) != k then k_ false
     else oL (nS (k+1))
    else kd
  else kd
 else k_ true
def xN (k_:Bool→α) (N:Nat) (uQ:Rows) (m_:Nat):Int→α:=
 Nat.rec (motive:=fun _=>Int→α) (fun _=>kd) (fun _ oL=>Ok kd k_ uQ oL) m_
theorem W8 (k_:Bool→α) (N:Nat) (uQ:Rows) (m_:Nat):xN kd k_ N uQ (m_+1)=Ok kd k_ uQ (xN kd k_ N uQ m_):=rfl
def Vy {α:Type} (kd:α) (k_:Bool→α) (l0:Rows→Int→α) (t:ni):α:=
 bif (len t.nC) != 8 then k_ false
 else l0 t.nC 0
def nel (k_:Bool→α) (N:Nat) (t:ni):α:=Vy kd k_ (fun uQ=>xN kd k_ N uQ N) t
theorem nrI (k_:Bool→α) (t:ni) (h_t:ka ni.ct t.enc):∃N,nel kd k_ N t=k_ (zh t):=by
 obtain⟨hl,_⟩:=oS (ni.VP h_t)
 refine⟨t.nC.length+1, ?_⟩
 unfold nel Vy zh
 refine qP (fun _=>rfl) (fun hg=> ?_)
 have h8:t.nC.length=8:=by
  have:len t.nC=8:=by simpa using hg
  simp only[len] at this
  omega
 have key:xN kd k_ (t.nC.length+1) t.nC (t.nC.length+1) 0=bif rL (nrr t.nC) t.nC 0 then k_ false else k_ true:=by
  refine (sJ t.nC (xN kd k_ (t.nC.length+1) t.nC) (fun i r c=>bif nrr t.nC i r then k_ false else c) (k_ true) ?_ ?_).trans (zk (nrr t.nC) (k_ false) (k_ true) t.nC 0)
  ·intro n i h
   rw[W8]
   have ho:nvs (⟨t.nC⟩:ni) (nO.nd (nth t.nC i) 1)=true:=decide_eq_true h8
   simp only[Ok,ho,pL h,n9 h,oE h hl,Int.toNat_natCast,ng,nv,cond_true]
   unfold nrr
   show (bif neN (nth t.nC i) then k_ false else _)=_
   cases neN (nth t.nC i)
   ·simp only[cond_false]
    cases ((rI (nth t.nC i) 0) != 1)
    ·rfl
    ·rfl
   ·rfl
  ·intro n
   rw[W8]
   simp only[Ok,nX,cond_false]
 refine key.trans ?_
 rw[nvT h8]
 exact J5 rfl rfl
def zw (k_:Bool→α) (nx:Int) (x:Rows) (oA:Int) (oL:Int→α) (oO:Int):α:=
 bif decide (oO<oA) then
  bif Ec true (idx oO x) then
   bif !(nj (rI (nth x (Int.toNat oO)) 0) 0 (nS (nx - 1))) then k_ false
   else oL (nS (oO+1))
  else kd
 else k_ true
def wS (k_:Bool→α) (N:Nat) (nx:Int) (x:Rows) (oA:Int) (m_:Nat):Int→α:=
 Nat.rec (motive:=fun _=>Int→α) (fun _=>kd) (fun _ oL=>zw kd k_ nx x oA oL) m_
theorem T_ (k_:Bool→α) (N:Nat) (nx:Int) (x:Rows) (oA:Int) (m_:Nat):wS kd k_ N nx x oA (m_+1)=zw kd k_ nx x oA (wS kd k_ N nx x oA m_):=rfl
def Sk {α:Type} (kd:α) (k_:Bool→α) (l0:Rows→Int→Int→α) (s:nD) (nx:Int):α:=
 bif bif !(nj nx 1 4) then true else bif (len s.Key) != 16 then true else !(Z8 (len s.Table)) then k_ false
 else l0 s.Table (len s.Table) 0
def na1 (k_:Bool→α) (N:Nat) (s:nD) (nx:Int):α:=Sk kd k_ (fun x oA=>wS kd k_ N nx x oA N) s nx
def yT (s:nD) (nx:Int):Bool:=bif bif !(nj nx 1 4) then true else bif (len s.Key) != 16 then true else !(Z8 (len s.Table)) then false
 else s.Table.all (fun r=>nj (rI r 0) 0 (nS (nx - 1)))
theorem nny (k_:Bool→α) (s:nD) (nx:Int) (Nr:ka nD.ct s.enc):∃N,na1 kd k_ N s nx=k_ (yT s nx):=by
 obtain⟨hl,_⟩:=oS (nD.VQ Nr)
 refine⟨s.Table.length+1, ?_⟩
 unfold na1 Sk yT
 refine qP (fun _=>rfl) (fun _=> ?_)
 have key:wS kd k_ (s.Table.length+1) nx s.Table (len s.Table) (s.Table.length+1) 0=bif s.Table.all (fun r=>nj (rI r 0) 0 (nS (nx - 1))) then k_ true else k_ false:=by
  refine (sJ s.Table (wS kd k_ (s.Table.length+1) nx s.Table (len s.Table)) (fun i r c=>bif !(nj (rI r 0) 0 (nS (nx - 1))) then k_ false else c) (k_ true) ?_ ?_).trans (Rp (fun r=>nj (rI r 0) 0 (nS (nx - 1))) (k_ false) (k_ true) s.Table 0)
  ·intro n i h
   rw[T_]
   simp only[zw,pL h,n9 h,oE h hl,Int.toNat_natCast,ng,nv,cond_true]
  ·intro n
   rw[T_]
   simp only[zw,nX,cond_false]
 refine key.trans ?_
 cases s.Table.all (fun r=>nj (rI r 0) 0 (nS (nx - 1)))<;>rfl
def Nd (k_:Bool→α) (nx:Int) (ta:Rows) (oL:Int→α) (k:Int):α:=
 bif decide (k<len ta) then
  bif Ec true (idx k ta) then
   bif !(nj (rI (nth ta (Int.toNat k)) 0) 0 (nS (nx - 1))) then k_ false
   else oL (nS (k+1))
  else kd
 else k_ true
def w6 (k_:Bool→α) (N:Nat) (nx:Int) (ta:Rows) (m_:Nat):Int→α:=
 Nat.rec (motive:=fun _=>Int→α) (fun _=>kd) (fun _ oL=>Nd kd k_ nx ta oL) m_
theorem Vw (k_:Bool→α) (N:Nat) (nx:Int) (ta:Rows) (m_:Nat):w6 kd k_ N nx ta (m_+1)=Nd kd k_ nx ta (w6 kd k_ N nx ta m_):=rfl
def SI {α:Type} (kd:α) (k_:Bool→α) (l0:Rows→Int→α) (s:nD) (nx:Int):α:=
 bif bif !(nj nx 1 4) then true else bif (len s.Key) != 16 then true else !(Z8 (len s.Table)) then k_ false
 else l0 s.Table 0
def ncm (k_:Bool→α) (N:Nat) (s:nD) (nx:Int):α:=SI kd k_ (fun ta=>w6 kd k_ N nx ta N) s nx
theorem npl (k_:Bool→α) (s:nD) (nx:Int) (Nr:ka nD.ct s.enc):∃N,ncm kd k_ N s nx=k_ (yT s nx):=by
 obtain⟨hl,_⟩:=oS (nD.VQ Nr)
 refine⟨s.Table.length+1, ?_⟩
 unfold ncm SI yT
 refine qP (fun _=>rfl) (fun _=> ?_)
 have key:w6 kd k_ (s.Table.length+1) nx s.Table (s.Table.length+1) 0=bif s.Table.all (fun r=>nj (rI r 0) 0 (nS (nx - 1))) then k_ true else k_ false:=by
  refine (sJ s.Table (w6 kd k_ (s.Table.length+1) nx s.Table) (fun i r c=>bif !(nj (rI r 0) 0 (nS (nx - 1))) then k_ false else c) (k_ true) ?_ ?_).trans (Rp (fun r=>nj (rI r 0) 0 (nS (nx - 1))) (k_ false) (k_ true) s.Table 0)
  ·intro n i h
   rw[Vw]
   simp only[Nd,pL h,n9 h,oE h hl,Int.toNat_natCast,ng,nv,cond_true]
  ·intro n
   rw[Vw]
   simp only[Nd,nX,cond_false]
 refine key.trans ?_
 cases s.Table.all (fun r=>nj (rI r 0) 0 (nS (nx - 1)))<;>rfl
def vb (k_:Bool→α) (l1:Int→Int→α) (nx:Int) (x:Rows) (oA:Int) (ta:Rows) (oL:Int→α) (oO:Int):α:=
 bif decide (oO<oA) then
  bif Ec true (idx oO x) then
   bif bif (rI (nth x (Int.toNat oO)) 7)==0 then decide (nx≤rI (nth x (Int.toNat oO)) 8) else false then k_ false
   else oL (nS (oO+1))
  else kd
 else l1 (len ta) 0
def vc (k_:Bool→α) (nx:Int) (ta:Rows) (Sa:Int) (ih1:Int→α) (VT:Int):α:=
 bif decide (VT<Sa) then
  bif Ec true (idx VT ta) then
   bif bif (rI (nth ta (Int.toNat VT)) 0)==1 then decide (nx≤rI (nth ta (Int.toNat VT)) 6) else false then k_ false
   else ih1 (nS (VT+1))
  else kd
 else k_ true
def tc (k_:Bool→α) (N:Nat) (nx:Int) (ta:Rows) (Sa:Int) (m_:Nat):Int→α:=
 Nat.rec (motive:=fun _=>Int→α) (fun _=>kd) (fun _ ih1=>vc kd k_ nx ta Sa ih1) m_
theorem RW (k_:Bool→α) (N:Nat) (nx:Int) (ta:Rows) (Sa:Int) (m_:Nat):tc kd k_ N nx ta Sa (m_+1)=vc kd k_ nx ta Sa (tc kd k_ N nx ta Sa m_):=rfl
def tb (k_:Bool→α) (N:Nat) (nx:Int) (x:Rows) (oA:Int) (ta:Rows) (m_:Nat):Int→α:=
 Nat.rec (motive:=fun _=>Int→α) (fun _=>kd) (fun _ oL=>vb kd k_ (fun Sa=>tc kd k_ N nx ta Sa N) nx x oA ta oL) m_
theorem RV (k_:Bool→α) (N:Nat) (nx:Int) (x:Rows) (oA:Int) (ta:Rows) (m_:Nat) (oO:Int):tb kd k_ N nx x oA ta (m_+1) oO=vb kd k_ (fun Sa=>tc kd k_ N nx ta Sa N) nx x oA ta (tb kd k_ N nx x oA ta m_) oO:=rfl
def yh {α:Type} (kd:α) (k_:Bool→α) (l0:Rows→Int→Rows→Int→α) (s:nm) (nx:Int):α:=
 bif bif !(Ty s.ot) then true else bif !(zh s.Table) then true else !(yT s.nL nx) then k_ false
 else l0 s.ot (len s.ot) s.Table.nC 0
def yg (k_:Bool→α) (N:Nat) (s:nm) (nx:Int):α:=yh kd k_ (fun x oA ta=>tb kd k_ N nx x oA ta N) s nx
def sG (s:nm) (nx:Int):Bool:=bif bif !(Ty s.ot) then true else bif !(zh s.Table) then true else !(yT s.nL nx) then false
 else bif s.ot.all (fun r=> !(decide (nx≤rI r 8))) then s.Table.nC.all (fun r=> !(decide (nx≤rI r 6))) else false
theorem ngH {p q:List DC→Bool} :∀ {l:Rows},(∀r∈l,p r=q r)→l.all p=l.all q
 | [],_=>rfl
 | r::rs,h=>by
  simp only[List.all_cons]
  rw[h r (by simp),ngH (fun x hx=>h x (by simp [hx]))]
theorem nuv {r:List DC} (h:Qt (qj.nd r 0)=true) (h7:rI r 7≠0):rI r 8=0:=by
 unfold Qt Xt at h
 simp only[id] at h
 have e7:((qj.nd r 0).Action==0)=false:=by
  show (rI r 7==0)=false
  simpa using h7
 rw[e7] at h
 simp only[cond_false] at h
 by_cases h1:rI r 8=0
 ·exact h1
 ·have e8:((qj.nd r 0).Queue==0)=false:=by
   show (rI r 8==0)=false
   simpa using h1
  rw[e8] at h
  revert h
  cases (qj.nd r 0).Action==1<;>simp
theorem ntK {t:ni} (h:zh t=true) {r:List DC} (hr:r∈t.nC) (h0:rI r 0≠1):rI r 6=0:=by
 unfold zh at h
 cases h1:(len t.nC) != 8
 ·rw[h1,cond_false] at h
  cases h2:rL (nhP t.nC) t.nC 0
  ·obtain⟨i,hi,rfl⟩:=List.getElem_of_mem hr
   have:=naa h2 i hi
   rw[Nat.zero_add] at this
   have hn:nth t.nC i=t.nC[i]:=by simp [nth,List.getD_eq_getElem?_getD,hi]
   rw[hn] at this
   unfold nhP at this
   have e1:((rI t.nC[i] 0) != 1)=true:=by simpa using h0
   rw[e1] at this
   by_cases h6:rI t.nC[i] 6=0
   ·exact h6
   ·have e6:((rI t.nC[i] 6) != 0)=true:=by simpa using h6
    rw[e6] at this
    revert this
    cases neN t.nC[i]<;>cases ntG t.nC[i]<;>simp
  ·rw[h2] at h;cases h
 ·rw[h1] at h;cases h
theorem nkw {s:nm} {nx:Int} (hg:(bif !(Ty s.ot) then true else bif !(zh s.Table) then true else !(yT s.nL nx))=false):
  (∀r∈s.ot,Qt (qj.nd r 0)=true)∧zh s.Table=true∧1≤nx:=by
 cases h1:Ty s.ot
 ·rw[h1] at hg;cases hg
 cases h2:zh s.Table
 ·rw[h1,h2] at hg;cases hg
 cases h3:yT s.nL nx
 ·rw[h1,h2,h3] at hg;cases hg
 refine⟨?_,rfl, ?_⟩
 ·unfold Ty at h1
  cases h4:s.ot.all (fun r=>Qt (qj.nd r 0))
  ·rw[h4] at h1;cases h1
  ·exact fun r hr=>by simpa using List.all_eq_true.1 h4 r hr
 ·unfold yT at h3
  cases h4:nj nx 1 4
  ·rw[h4] at h3;cases h3
  ·exact (pf.1 h4).1
theorem niD (k_:Bool→α) (s:nm) (nx:Int) (Nr:ka nm.ct s.enc):∃N,yg kd k_ N s nx=k_ (sG s nx):=by
 obtain⟨hl,_⟩:=oS (nm.nsc Nr)
 obtain⟨j9,_⟩:=oS (ni.VP (nm.VQ Nr))
 refine⟨s.ot.length+s.Table.nC.length+1, ?_⟩
 unfold yg yh sG
 refine qP (fun _=>rfl) (fun hg=> ?_)
 have nu_:tc kd k_ (s.ot.length+s.Table.nC.length+1) nx s.Table.nC (len s.Table.nC) (s.ot.length+s.Table.nC.length+1) 0=bif s.Table.nC.all (fun r=> !(bif (rI r 0)==1 then decide (nx≤rI r 6) else false)) then k_ true else k_ false:=by
  refine (xp s.Table.nC (tc kd k_ (s.ot.length+s.Table.nC.length+1) nx s.Table.nC (len s.Table.nC)) (fun i r c=>bif !(!(bif (rI r 0)==1 then decide (nx≤rI r 6) else false)) then k_ false else c) (k_ true) ?_ ?_ (s.ot.length+s.Table.nC.length+1) (by omega)).trans (Rp (fun r=> !(bif (rI r 0)==1 then decide (nx≤rI r 6) else false)) (k_ false) (k_ true) s.Table.nC 0)
  ·intro n i h
   rw[RW]
   simp only[vc,pL h,n9 h,oE h j9,Int.toNat_natCast,ng,nv,cond_true,Bool.not_not]
  ·intro n
   rw[RW]
   simp only[vc,nX,cond_false]
 have key:tb kd k_ (s.ot.length+s.Table.nC.length+1) nx s.ot (len s.ot) s.Table.nC (s.ot.length+s.Table.nC.length+1) 0=bif s.ot.all (fun r=> !(bif (rI r 7)==0 then decide (nx≤rI r 8) else false)) then (bif s.Table.nC.all (fun r=> !(bif (rI r 0)==1 then decide (nx≤rI r 6) else false)) then k_ true else k_ false) else k_ false:=by
  refine (xp s.ot (tb kd k_ (s.ot.length+s.Table.nC.length+1) nx s.ot (len s.ot) s.Table.nC) (fun i r c=>bif !(!(bif (rI r 7)==0 then decide (nx≤rI r 8) else false)) then k_ false else c) (bif s.Table.nC.all (fun r=> !(bif (rI r 0)==1 then decide (nx≤rI r 6) else false)) then k_ true else k_ false) ?_ ?_ (s.ot.length+s.Table.nC.length+1) (by omega)).trans (Rp (fun r=> !(bif (rI r 7)==0 then decide (nx≤rI r 8) else false)) (k_ false) _ s.ot 0)
  ·intro n i h
   rw[RV]
   simp only[vb,pL h,n9 h,oE h hl,Int.toNat_natCast,ng,nv,cond_true,Bool.not_not]
  ·intro n
   rw[RV]
   simp only[vb,nX,cond_false]
   exact nu_
 refine key.trans ?_
 obtain⟨g1,g2,g3⟩:=nkw hg
 rw[ngH (l:=s.ot) (q:=fun r=> !(decide (nx≤rI r 8))) (fun r hr=>by
  by_cases h7:rI r 7=0
  ·have e:((rI r 7)==0)=true:=by simpa using h7
   rw[e,cond_true]
  ·have e:((rI r 7)==0)=false:=by simpa using h7
   rw[e,cond_false,nuv (g1 r hr) h7,decide_eq_false (by omega)])]
 rw[ngH (l:=s.Table.nC) (q:=fun r=> !(decide (nx≤rI r 6))) (fun r hr=>by
  by_cases h7:rI r 0=1
  ·have e:((rI r 0)==1)=true:=by simpa using h7
   rw[e,cond_true]
  ·have e:((rI r 0)==1)=false:=by simpa using h7
   rw[e,cond_false,ntK g2 hr h7,decide_eq_false (by omega)])]
 cases s.ot.all (fun r=> !(decide (nx≤rI r 8)))
 ·rfl
 ·cases s.Table.nC.all (fun r=> !(decide (nx≤rI r 6)))<;>rfl
def vn (k_:Bool→α) (l1:Int→α) (nx:Int) (ub ta:Rows) (oL:Int→α) (k:Int):α:=
 bif decide (k<len ub) then
  bif Ec true (idx k ub) then
   bif decide (nx≤rI (nth ub (Int.toNat k)) 8) then k_ false
   else oL (nS (k+1))
  else kd
 else l1 0
def vo (k_:Bool→α) (nx:Int) (ta:Rows) (ih1:Int→α) (rN:Int):α:=
 bif decide (rN<len ta) then
  bif Ec true (idx rN ta) then
   bif decide (nx≤rI (nth ta (Int.toNat rN)) 6) then k_ false
   else ih1 (nS (rN+1))
  else kd
 else k_ true
def tf (k_:Bool→α) (N:Nat) (nx:Int) (ta:Rows) (m_:Nat):Int→α:=
 Nat.rec (motive:=fun _=>Int→α) (fun _=>kd) (fun _ ih1=>vo kd k_ nx ta ih1) m_
theorem R9 (k_:Bool→α) (N:Nat) (nx:Int) (ta:Rows) (m_:Nat):tf kd k_ N nx ta (m_+1)=vo kd k_ nx ta (tf kd k_ N nx ta m_):=rfl
def te (k_:Bool→α) (N:Nat) (nx:Int) (ub ta:Rows) (m_:Nat):Int→α:=
 Nat.rec (motive:=fun _=>Int→α) (fun _=>kd) (fun _ oL=>vn kd k_ (tf kd k_ N nx ta N) nx ub ta oL) m_
theorem R8 (k_:Bool→α) (N:Nat) (nx:Int) (ub ta:Rows) (m_:Nat) (k:Int):te kd k_ N nx ub ta (m_+1) k=vn kd k_ (tf kd k_ N nx ta N) nx ub ta (te kd k_ N nx ub ta m_) k:=rfl
def yI {α:Type} (kd:α) (k_:Bool→α) (l0:Rows→Rows→Int→α) (s:nm) (nx:Int):α:=
 bif bif !(Ty s.ot) then true else bif !(zh s.Table) then true else !(yT s.nL nx) then k_ false
 else l0 s.ot s.Table.nC 0
def yH (k_:Bool→α) (N:Nat) (s:nm) (nx:Int):α:=yI kd k_ (fun ub ta=>te kd k_ N nx ub ta N) s nx
theorem nkg (k_:Bool→α) (s:nm) (nx:Int) (Nr:ka nm.ct s.enc):∃N,yH kd k_ N s nx=k_ (sG s nx):=by
 obtain⟨hl,_⟩:=oS (nm.nsc Nr)
 obtain⟨j9,_⟩:=oS (ni.VP (nm.VQ Nr))
 refine⟨s.ot.length+s.Table.nC.length+1, ?_⟩
 unfold yH yI sG
 refine qP (fun _=>rfl) (fun hg=> ?_)
 have nu_:tf kd k_ (s.ot.length+s.Table.nC.length+1) nx s.Table.nC (s.ot.length+s.Table.nC.length+1) 0=bif s.Table.nC.all (fun r=> !(decide (nx≤rI r 6))) then k_ true else k_ false:=by
  refine (xp s.Table.nC (tf kd k_ (s.ot.length+s.Table.nC.length+1) nx s.Table.nC) (fun i r c=>bif !(!(decide (nx≤rI r 6))) then k_ false else c) (k_ true) ?_ ?_ (s.ot.length+s.Table.nC.length+1) (by omega)).trans (Rp (fun r=> !(decide (nx≤rI r 6))) (k_ false) (k_ true) s.Table.nC 0)
  ·intro n i h
   rw[R9]
   simp only[vo,pL h,n9 h,oE h j9,Int.toNat_natCast,ng,nv,cond_true,Bool.not_not]
  ·intro n
   rw[R9]
   simp only[vo,nX,cond_false]
 have key:te kd k_ (s.ot.length+s.Table.nC.length+1) nx s.ot s.Table.nC (s.ot.length+s.Table.nC.length+1) 0=bif s.ot.all (fun r=> !(decide (nx≤rI r 8))) then (bif s.Table.nC.all (fun r=> !(decide (nx≤rI r 6))) then k_ true else k_ false) else k_ false:=by
  refine (xp s.ot (te kd k_ (s.ot.length+s.Table.nC.length+1) nx s.ot s.Table.nC) (fun i r c=>bif !(!(decide (nx≤rI r 8))) then k_ false else c) (bif s.Table.nC.all (fun r=> !(decide (nx≤rI r 6))) then k_ true else k_ false) ?_ ?_ (s.ot.length+s.Table.nC.length+1) (by omega)).trans (Rp (fun r=> !(decide (nx≤rI r 8))) (k_ false) _ s.ot 0)
  ·intro n i h
   rw[R8]
   simp only[vn,pL h,n9 h,oE h hl,Int.toNat_natCast,ng,nv,cond_true,Bool.not_not]
  ·intro n
   rw[R8]
   simp only[vn,nX,cond_false]
   exact nu_
 refine key.trans ?_
 cases s.ot.all (fun r=> !(decide (nx≤rI r 8)))
 ·rfl
 ·cases s.Table.nC.all (fun r=> !(decide (nx≤rI r 6)))<;>rfl
def yW (k_:Bool→α) (l1:Int→Rows→Int→α) (n x:Int) (pe pI oG oZ o_:Rows) (oX:Bytes) (pb:Rows) (qn qo qp qq qs:Int) (oL:Int→α) (oA:Int):α:=
 let z0:Bool:= !(zg (nk.nd (nth pe (Int.toNat oA)) 0))
 let z1:Bool:= !(tU (nE.nd (nth pI (Int.toNat oA)) 0))
 let z2:Bool:=Ec (Ec true (idx oA pe)) (idx oA pI)
 bif decide (oA<x) then
  bif LV z0 (Ec true (idx oA pe)) (LV z1 z2 (Ec z2 (idx oA oG))) then
   bif bif z0 then true else bif z1 then true else !(tW (nA.nd (nth oG (Int.toNat oA)) 0)) then k_ false
   else oL (nS (oA+1))
  else kd
 else l1 5 ([[.int qn],[.int qo],[.int qp],[.int qq],[.int qs]]) 0
def Ps (k_:Bool→α) (n oO:Int) (oZ o_:Rows) (oX:Bytes) (pb Sa:Rows) (ih1:Int→α) (x_3:Int):α:=
 bif decide (x_3<oO) then
  bif Ec (Ec true (idx x_3 Sa)) (inl (Int.toNat x_3) Sa) then
   bif !(nj (rI (nth Sa (Int.toNat x_3)) 0) 0 1000000000000) then k_ false
   else ih1 (nS (x_3+1))
  else kd
 else k_ (sG (⟨oZ,(⟨o_⟩:ni),(⟨oX,pb⟩:nD)⟩:nm) n)
def u4 (k_:Bool→α) (N:Nat) (n oO:Int) (oZ o_:Rows) (oX:Bytes) (pb Sa:Rows) (m_:Nat):Int→α:=
 Nat.rec (motive:=fun _=>Int→α) (fun _=>kd) (fun _ ih1=>Ps kd k_ n oO oZ o_ oX pb Sa ih1) m_
theorem Yd (k_:Bool→α) (N:Nat) (n oO:Int) (oZ o_:Rows) (oX:Bytes) (pb Sa:Rows) (m_:Nat):u4 kd k_ N n oO oZ o_ oX pb Sa (m_+1)=Ps kd k_ n oO oZ o_ oX pb Sa (u4 kd k_ N n oO oZ o_ oX pb Sa m_):=rfl
def tx (k_:Bool→α) (N:Nat) (n x:Int) (pe pI oG oZ o_:Rows) (oX:Bytes) (pb:Rows) (qn qo qp qq qs:Int) (m_:Nat):Int→α:=
 Nat.rec (motive:=fun _=>Int→α) (fun _=>kd) (fun _ oL=>yW kd k_ (fun oO Sa=>u4 kd k_ N n oO oZ o_ oX pb Sa N) n x pe pI oG oZ o_ oX pb qn qo qp qq qs oL) m_
theorem Yc (k_:Bool→α) (N:Nat) (n x:Int) (pe pI oG oZ o_:Rows) (oX:Bytes) (pb:Rows) (qn qo qp qq qs:Int) (m_:Nat) (oA:Int):tx kd k_ N n x pe pI oG oZ o_ oX pb qn qo qp qq qs (m_+1) oA=yW kd k_ (fun oO Sa=>u4 kd k_ N n oO oZ o_ oX pb Sa N) n x pe pI oG oZ o_ oX pb qn qo qp qq qs (tx kd k_ N n x pe pI oG oZ o_ oX pb qn qo qp qq qs m_) oA:=rfl
def Rs (k_:Bool→α) (l0:Int→Int→Rows→Rows→Rows→Rows→Rows→Bytes→Rows→Int→Int→Int→Int→Int→Int→α) (h:nt):α:=
 let z0:Bool:= !(nj (len h.Rx) 1 2)
 let z1:Bool:=(len h.n_) != (len h.Rx)
 let z2:Bool:=(len h.nM) != (len h.Rx)
 bif LV (!(qM h.nZ)) true (LV (!(pO h.Maps)) true (LV (!(ne3 h.Tx)) (Ec true (SM h.Tx)) (LV (!(vL h.Filter)) (Ec true (SM h.Tx)) (LV z0 (Ec true (SM h.Tx)) (LV z1 (Ec true (SM h.Tx)) (LV z2 (Ec true (SM h.Tx)) (Ec true (SM h.Tx)))))))) then
  bif bif !(qM h.nZ) then true else bif !(pO h.Maps) then true else bif !(ne3 h.Tx) then true else bif !(vL h.Filter) then true else bif z0 then true else bif z1 then true else bif z2 then true else (len h.ox) != (len h.Rx) then k_ false
  else l0 (len h.Rx) (len h.Rx) h.Rx h.n_ h.nM h.nh.ot h.nh.Table.nC h.nh.nL.Key h.nh.nL.Table h.Counters.Frames h.Counters.SN h.Counters.oY h.Counters.pP h.Counters.rW 0
 else kd
def Rr (k_:Bool→α) (N:Nat) (h:nt):α:=Rs kd k_ (fun n x pe pI oG oZ o_ oX pb qn qo qp qq qs=>tx kd k_ N n x pe pI oG oZ o_ oX pb qn qo qp qq qs N) h
def TX (h:nt):Bool:=SM h.Tx
def wN (h:nt):Rows:=[[.int h.Counters.Frames],[.int h.Counters.SN],[.int h.Counters.oY],[.int h.Counters.pP],[.int h.Counters.rW]]
def npZ (h:nt):Bool:=(bif !(qM h.nZ) then true else bif !(pO h.Maps) then true else bif !(ne3 h.Tx) then true else bif !(vL h.Filter) then true else bif !(nj (len h.Rx) 1 2) then true else bif (len h.n_) != (len h.Rx) then true else bif (len h.nM) != (len h.Rx) then true else (len h.ox) != (len h.Rx))
def yQ (h:nt):Bool:=bif npZ h then false else bif sG h.nh (len h.Rx) then bif yN (fun i=>bif !(zg (nk.nd (nth h.Rx i) 0)) then true else bif !(tU (nE.nd (nth h.n_ i) 0)) then true else !(tW (nA.nd (nth h.nM i) 0))) h.Rx.length 0 then false else (wN h).all (fun r=>nj (rI r 0) 0 1000000000000) else false
theorem nine:∀a b c d e f g i j:Bool,(bif a then true else bif b then true else bif c then true else bif d then true else bif e then true else bif f then true else bif g then true else bif i then true else j)=(bif (bif a then true else bif b then true else bif c then true else bif d then true else bif e then true else bif f then true else bif g then true else i) then true else j):=by decide
theorem nsg (k_:Bool→α) (h:nt) (aJ:TX h=true):∃N,Rr kd k_ N h=k_ (yQ h):=by
 have hq:SM h.Tx=true:=aJ
 refine⟨h.Rx.length+6, ?_⟩
 unfold Rr Rs yQ
 simp only[hq,ng,nv,PV,cond_true]
 refine qP (fun _=>rfl) (fun hg=> ?_)
 have hn:h.Rx.length≤2∧len h.n_=len h.Rx∧len h.nM=len h.Rx:=by
  unfold npZ at hg
  cases h5:nj (len h.Rx) 1 2
  ·rw[h5] at hg
   revert hg
   cases qM h.nZ<;>cases pO h.Maps<;>cases ne3 h.Tx<;>cases vL h.Filter<;>simp
  ·have b:=(pf.1 h5).2
   by_cases e1:len h.n_=len h.Rx
   ·by_cases e2:len h.nM=len h.Rx
    ·exact⟨by simp only[len] at b;omega,e1,e2⟩
    ·have e2:((len h.nM) != (len h.Rx))=true:=by simpa using e2
     rw[e2] at hg
     revert hg
     cases qM h.nZ<;>cases pO h.Maps<;>cases ne3 h.Tx<;>cases vL h.Filter<;>cases nj (len h.Rx) 1 2<;>cases ((len h.n_) != (len h.Rx))<;>simp
   ·have e1:((len h.n_) != (len h.Rx))=true:=by simpa using e1
    rw[e1] at hg
    revert hg
    cases qM h.nZ<;>cases pO h.Maps<;>cases ne3 h.Tx<;>cases vL h.Filter<;>cases nj (len h.Rx) 1 2<;>simp
 obtain⟨hn,hp,hv⟩:=hn
 have hc5:(wN h).length=5:=rfl
 have nu_:u4 kd k_ (h.Rx.length+6) (len h.Rx) 5 h.nh.ot h.nh.Table.nC h.nh.nL.Key h.nh.nL.Table (wN h) (h.Rx.length+6) 0=bif (wN h).all (fun r=>nj (rI r 0) 0 1000000000000) then (k_ (sG h.nh (len h.Rx))) else k_ false:=by
  refine (xp (wN h) (u4 kd k_ (h.Rx.length+6) (len h.Rx) 5 h.nh.ot h.nh.Table.nC h.nh.nL.Key h.nh.nL.Table (wN h)) (fun i r c=>bif !(nj (rI r 0) 0 1000000000000) then k_ false else c) ((k_ (sG h.nh (len h.Rx)))) ?_ ?_ (h.Rx.length+6) (by omega)).trans (Rp (fun r=>nj (rI r 0) 0 1000000000000) (k_ false) ((k_ (sG h.nh (len h.Rx)))) (wN h) 0)
  ·intro n i hi
   rw[Yd]
   have w1:nS ((i:Int)+1)=(i:Int)+1:=nJ (by omega) (by omega)
   have hd:decide ((i:Int)<5)=true:=decide_eq_true (by omega)
   simp only[Ps,hd,n9 hi,sF hi,w1,Int.toNat_natCast,ng,nv,cond_true]
  ·intro n
   rw[Yd]
   rfl
 have key:tx kd k_ (h.Rx.length+6) (len h.Rx) (len h.Rx) h.Rx h.n_ h.nM h.nh.ot h.nh.Table.nC h.nh.nL.Key h.nh.nL.Table h.Counters.Frames h.Counters.SN h.Counters.oY h.Counters.pP h.Counters.rW (h.Rx.length+6) 0=bif yN (fun i=>bif !(zg (nk.nd (nth h.Rx i) 0)) then true else bif !(tU (nE.nd (nth h.n_ i) 0)) then true else !(tW (nA.nd (nth h.nM i) 0))) h.Rx.length 0 then k_ false else (bif (wN h).all (fun r=>nj (rI r 0) 0 1000000000000) then (k_ (sG h.nh (len h.Rx))) else k_ false):=by
  refine (njX (σ:=Unit) h.Rx.length (fun n i _=>tx kd k_ (h.Rx.length+6) (len h.Rx) (len h.Rx) h.Rx h.n_ h.nM h.nh.ot h.nh.Table.nC h.nh.nL.Key h.nh.nL.Table h.Counters.Frames h.Counters.SN h.Counters.oY h.Counters.pP h.Counters.rW n i) (fun i c s=>bif bif !(zg (nk.nd (nth h.Rx i) 0)) then true else bif !(tU (nE.nd (nth h.n_ i) 0)) then true else !(tW (nA.nd (nth h.nM i) 0)) then k_ false else c s) (fun _=>bif (wN h).all (fun r=>nj (rI r 0) 0 1000000000000) then (k_ (sG h.nh (len h.Rx))) else k_ false) ?_ ?_ (h.Rx.length+6) () (by omega)).trans (npG (fun i=>bif !(zg (nk.nd (nth h.Rx i) 0)) then true else bif !(tU (nE.nd (nth h.n_ i) 0)) then true else !(tW (nA.nd (nth h.nM i) 0))) (k_ false) _ h.Rx.length 0)
  ·intro n i s hi
   show tx kd k_ (h.Rx.length+6) (len h.Rx) (len h.Rx) h.Rx h.n_ h.nM h.nh.ot h.nh.Table.nC h.nh.nL.Key h.nh.nL.Table h.Counters.Frames h.Counters.SN h.Counters.oY h.Counters.pP h.Counters.rW (n+1) (i:Int)=_
   rw[Yc]
   have w1:nS ((i:Int)+1)=(i:Int)+1:=nJ (by omega) (by omega)
   have p1:idx (i:Int) h.Rx=true:=n9 hi
   have p2:idx (i:Int) h.n_=true:=n9 (by simp only[len] at hp;omega)
   have p3:idx (i:Int) h.nM=true:=n9 (by simp only[len] at hv;omega)
   have p0:decide ((i:Int)<len h.Rx)=true:=pL hi
   simp only[yW,p0,p1,p2,p3,w1,Int.toNat_natCast,ng,nv,PV,cond_true]
  ·intro n s
   show tx kd k_ (h.Rx.length+6) (len h.Rx) (len h.Rx) h.Rx h.n_ h.nM h.nh.ot h.nh.Table.nC h.nh.nL.Key h.nh.nL.Table h.Counters.Frames h.Counters.SN h.Counters.oY h.Counters.pP h.Counters.rW (n+1) (h.Rx.length:Int)=_
   rw[Yc]
   have p0:decide ((h.Rx.length:Int)<len h.Rx)=false:=nX h.Rx
   simp only[yW,p0,cond_false]
   exact nu_
 refine key.trans ?_
 cases sG h.nh (len h.Rx)
 ·cases yN (fun i=>bif !(zg (nk.nd (nth h.Rx i) 0)) then true else bif !(tU (nE.nd (nth h.n_ i) 0)) then true else !(tW (nA.nd (nth h.nM i) 0))) h.Rx.length 0
  ·cases (wN h).all (fun r=>nj (rI r 0) 0 1000000000000)<;>rfl
  ·rfl
 ·cases yN (fun i=>bif !(zg (nk.nd (nth h.Rx i) 0)) then true else bif !(tU (nE.nd (nth h.n_ i) 0)) then true else !(tW (nA.nd (nth h.nM i) 0))) h.Rx.length 0
  ·cases (wN h).all (fun r=>nj (rI r 0) 0 1000000000000)<;>rfl
  ·rfl
def za (k_:Bool→α) (l1:Rows→Int→α) (n:Int) (pe pI oG:Rows) (qn qo qp qq qs:Int) (oL:Int→α) (k:Int):α:=
 let z0:Bool:= !(zg (nk.nd (nth pe (Int.toNat k)) 0))
 let z1:Bool:= !(tU (nE.nd (nth pI (Int.toNat k)) 0))
 let z2:Bool:=Ec (Ec true (idx k pe)) (idx k pI)
 bif decide (k<n) then
  bif LV z0 (Ec true (idx k pe)) (LV z1 z2 (Ec z2 (idx k oG))) then
   bif bif z0 then true else bif z1 then true else !(tW (nA.nd (nth oG (Int.toNat k)) 0)) then k_ false
   else oL (nS (k+1))
  else kd
 else l1 ([[.int qn],[.int qo],[.int qp],[.int qq],[.int qs]]) 0
def PZ (k_:Bool→α) (nc:Rows) (ih1:Int→α) (rN:Int):α:=
 bif decide (rN<len nc) then
  bif Ec (Ec true (idx rN nc)) (inl (Int.toNat rN) nc) then
   bif !(nj (rI (nth nc (Int.toNat rN)) 0) 0 1000000000000) then k_ false
   else ih1 (nS (rN+1))
  else kd
 else k_ true
def vh (k_:Bool→α) (N:Nat) (nc:Rows) (m_:Nat):Int→α:=
 Nat.rec (motive:=fun _=>Int→α) (fun _=>kd) (fun _ ih1=>PZ kd k_ nc ih1) m_
theorem ZU (k_:Bool→α) (N:Nat) (nc:Rows) (m_:Nat):vh kd k_ N nc (m_+1)=PZ kd k_ nc (vh kd k_ N nc m_):=rfl
def tI (k_:Bool→α) (N:Nat) (n:Int) (pe pI oG:Rows) (qn qo qp qq qs:Int) (m_:Nat):Int→α:=
 Nat.rec (motive:=fun _=>Int→α) (fun _=>kd) (fun _ oL=>za kd k_ (fun nc=>vh kd k_ N nc N) n pe pI oG qn qo qp qq qs oL) m_
theorem ZT (k_:Bool→α) (N:Nat) (n:Int) (pe pI oG:Rows) (qn qo qp qq qs:Int) (m_:Nat) (k:Int):tI kd k_ N n pe pI oG qn qo qp qq qs (m_+1) k=za kd k_ (fun nc=>vh kd k_ N nc N) n pe pI oG qn qo qp qq qs (tI kd k_ N n pe pI oG qn qo qp qq qs m_) k:=rfl
def RJ (k_:Bool→α) (l0:Int→Rows→Rows→Rows→Int→Int→Int→Int→Int→Int→α) (h:nt):α:=
 let z0:Bool:= !(nj (len h.Rx) 1 2)
 let z1:Bool:=(len h.n_) != (len h.Rx)
 let z2:Bool:=(len h.nM) != (len h.Rx)
 let z3:Bool:=(len h.ox) != (len h.Rx)
 bif LV (!(qM h.nZ)) true (LV (!(pO h.Maps)) true (LV (!(ne3 h.Tx)) (Ec true (SM h.Tx)) (LV (!(vL h.Filter)) (Ec true (SM h.Tx)) (LV z0 (Ec true (SM h.Tx)) (LV z1 (Ec true (SM h.Tx)) (LV z2 (Ec true (SM h.Tx)) (LV z3 (Ec true (SM h.Tx)) (Ec true (SM h.Tx))))))))) then
  bif bif !(qM h.nZ) then true else bif !(pO h.Maps) then true else bif !(ne3 h.Tx) then true else bif !(vL h.Filter) then true else bif z0 then true else bif z1 then true else bif z2 then true else bif z3 then true else !(sG h.nh (len h.Rx)) then k_ false
  else l0 (len h.Rx) h.Rx h.n_ h.nM h.Counters.Frames h.Counters.SN h.Counters.oY h.Counters.pP h.Counters.rW 0
 else kd
def RI (k_:Bool→α) (N:Nat) (h:nt):α:=RJ kd k_ (fun n pe pI oG qn qo qp qq qs=>tI kd k_ N n pe pI oG qn qo qp qq qs N) h
theorem nta (k_:Bool→α) (h:nt) (aJ:TX h=true):∃N,RI kd k_ N h=k_ (yQ h):=by
 have hq:SM h.Tx=true:=aJ
 refine⟨h.Rx.length+6, ?_⟩
 unfold RI RJ yQ
 simp only[hq,ng,nv,PV,cond_true]
 rw[nine]
 show (bif (bif npZ h then true else !(sG h.nh (len h.Rx))) then k_ false else _)=_
 rcases Bool.eq_false_or_eq_true (npZ h) with hg | hg
 ·rw[hg];rfl
 rcases Bool.eq_false_or_eq_true (sG h.nh (len h.Rx)) with hs | hs
 case inr=>
  rw[hg,hs];rfl
 simp only[hg,hs,Bool.not_true,cond_false,cond_true]
 have hn:h.Rx.length≤2∧len h.n_=len h.Rx∧len h.nM=len h.Rx:=by
  unfold npZ at hg
  cases h5:nj (len h.Rx) 1 2
  ·rw[h5] at hg
   revert hg
   cases qM h.nZ<;>cases pO h.Maps<;>cases ne3 h.Tx<;>cases vL h.Filter<;>simp
  ·have b:=(pf.1 h5).2
   by_cases e1:len h.n_=len h.Rx
   ·by_cases e2:len h.nM=len h.Rx
    ·exact⟨by simp only[len] at b;omega,e1,e2⟩
    ·have e2:((len h.nM) != (len h.Rx))=true:=by simpa using e2
     rw[e2] at hg
     revert hg
     cases qM h.nZ<;>cases pO h.Maps<;>cases ne3 h.Tx<;>cases vL h.Filter<;>cases nj (len h.Rx) 1 2<;>cases ((len h.n_) != (len h.Rx))<;>simp
   ·have e1:((len h.n_) != (len h.Rx))=true:=by simpa using e1
    rw[e1] at hg
    revert hg
    cases qM h.nZ<;>cases pO h.Maps<;>cases ne3 h.Tx<;>cases vL h.Filter<;>cases nj (len h.Rx) 1 2<;>simp
 obtain⟨hn,hp,hv⟩:=hn
 have hc5:(wN h).length=5:=rfl
 have nu_:vh kd k_ (h.Rx.length+6) (wN h) (h.Rx.length+6) 0=bif (wN h).all (fun r=>nj (rI r 0) 0 1000000000000) then (k_ true) else k_ false:=by
  refine (xp (wN h) (vh kd k_ (h.Rx.length+6) (wN h)) (fun i r c=>bif !(nj (rI r 0) 0 1000000000000) then k_ false else c) ((k_ true)) ?_ ?_ (h.Rx.length+6) (by omega)).trans (Rp (fun r=>nj (rI r 0) 0 1000000000000) (k_ false) ((k_ true)) (wN h) 0)
  ·intro n i hi
   rw[ZU]
   have w1:nS ((i:Int)+1)=(i:Int)+1:=nJ (by omega) (by omega)
   simp only[PZ,pL hi,n9 hi,sF hi,w1,Int.toNat_natCast,ng,nv,cond_true]
  ·intro n
   rw[ZU]
   rfl
 have key:tI kd k_ (h.Rx.length+6) (len h.Rx) h.Rx h.n_ h.nM h.Counters.Frames h.Counters.SN h.Counters.oY h.Counters.pP h.Counters.rW (h.Rx.length+6) 0=bif yN (fun i=>bif !(zg (nk.nd (nth h.Rx i) 0)) then true else bif !(tU (nE.nd (nth h.n_ i) 0)) then true else !(tW (nA.nd (nth h.nM i) 0))) h.Rx.length 0 then k_ false else (bif (wN h).all (fun r=>nj (rI r 0) 0 1000000000000) then (k_ true) else k_ false):=by
  refine (njX (σ:=Unit) h.Rx.length (fun n i _=>tI kd k_ (h.Rx.length+6) (len h.Rx) h.Rx h.n_ h.nM h.Counters.Frames h.Counters.SN h.Counters.oY h.Counters.pP h.Counters.rW n i) (fun i c s=>bif bif !(zg (nk.nd (nth h.Rx i) 0)) then true else bif !(tU (nE.nd (nth h.n_ i) 0)) then true else !(tW (nA.nd (nth h.nM i) 0)) then k_ false else c s) (fun _=>bif (wN h).all (fun r=>nj (rI r 0) 0 1000000000000) then (k_ true) else k_ false) ?_ ?_ (h.Rx.length+6) () (by omega)).trans (npG (fun i=>bif !(zg (nk.nd (nth h.Rx i) 0)) then true else bif !(tU (nE.nd (nth h.n_ i) 0)) then true else !(tW (nA.nd (nth h.nM i) 0))) (k_ false) _ h.Rx.length 0)
  ·intro n i s hi
   show tI kd k_ (h.Rx.length+6) (len h.Rx) h.Rx h.n_ h.nM h.Counters.Frames h.Counters.SN h.Counters.oY h.Counters.pP h.Counters.rW (n+1) (i:Int)=_
   rw[ZT]
   have w1:nS ((i:Int)+1)=(i:Int)+1:=nJ (by omega) (by omega)
   have p1:idx (i:Int) h.Rx=true:=n9 hi
   have p2:idx (i:Int) h.n_=true:=n9 (by simp only[len] at hp;omega)
   have p3:idx (i:Int) h.nM=true:=n9 (by simp only[len] at hv;omega)
   have p0:decide ((i:Int)<len h.Rx)=true:=pL hi
   simp only[za,p0,p1,p2,p3,w1,Int.toNat_natCast,ng,nv,PV,cond_true]
  ·intro n s
   show tI kd k_ (h.Rx.length+6) (len h.Rx) h.Rx h.n_ h.nM h.Counters.Frames h.Counters.SN h.Counters.oY h.Counters.pP h.Counters.rW (n+1) (h.Rx.length:Int)=_
   rw[ZT]
   have p0:decide ((h.Rx.length:Int)<len h.Rx)=false:=nX h.Rx
   simp only[za,p0,cond_false]
   exact nu_
 refine key.trans ?_
 cases yN (fun i=>bif !(zg (nk.nd (nth h.Rx i) 0)) then true else bif !(tU (nE.nd (nth h.n_ i) 0)) then true else !(tW (nA.nd (nth h.nM i) 0))) h.Rx.length 0
 ·cases (wN h).all (fun r=>nj (rI r 0) 0 1000000000000)<;>rfl
 ·rfl
theorem ntz:∀(a:Rows) (l:Int),(∀r∈a,ka pG.ct r)→0≤l→l≤1048576→0≤nuh (fun r l=>sH (pG.nd r 0) l) a l→(npU a:Int)≤l
 | [],l,_,h,_,_=>by simpa [npU] using h
 | r::rs,l,hw,h,h',h0=>by
  simp only[nuh] at h0
  have hr:G3 (.sl [.int .i64]) (.sl (rR r 2)):=by
   have:=hw r (by simp)
   rw[←pG.eta this] at this
   exact pG.nr_ this
  obtain⟨e,hl⟩:=nmM h h' (oS hr).1
  have hs:sH (pG.nd r 0) l=bif decide (l - len (rR r 2)<0) then -1 else l - len (rR r 2):=by
   unfold sH RD pF
   show (bif decide ((bif decide (nS (l - len (rR r 2))<0) then -1 else nS (l - len (rR r 2)))<0) then id (-1) else id (bif decide (nS (l - len (rR r 2))<0) then -1 else nS (l - len (rR r 2))))=_
   rw[e]
   by_cases hn:l - len (rR r 2)<0
   ·simp [hn]
   ·simp [hn]
  by_cases hn:l - len (rR r 2)<0
  ·simp [hs,hn] at h0
  ·have hs:sH (pG.nd r 0) l=l - len (rR r 2):=by simp [hs,hn]
   have hn':¬sH (pG.nd r 0) l<0:=by omega
   simp only[hn',decide_false,cond_false] at h0
   rw[hs] at h0
   have ih:=ntz rs (l - len (rR r 2)) (fun x hx=>hw x (by simp [hx])) (by omega) (by omega) h0
   simp only[npU]
   simp only[len] at ih hn
   omega
theorem nui {a:Rows} {left:Int} (NQ:G3 (.sl [.int .i64,.int .i64,.sl [.int .i64]]) (.sl a)) (h1:0≤left) (h2:left≤1048576) (h0:0≤t9 a left):npU a≤1048576:=by
 obtain⟨hl,hw⟩:=oS NQ
 obtain⟨e,h3⟩:=nmM h1 h2 hl
 simp only[t9,Xe,e] at h0
 by_cases hn:left - len a<0
 ·simp [hn] at h0
 ·simp only[hn,decide_false,cond_false] at h0
  have:=ntz a (left - len a) hw (by omega) (by omega) h0
  omega
theorem nwH {a:nn} {left:Int} (NQ:ka nn.ct a.enc) (h1:0≤left) (h2:left≤1048576) (h0:0≤qc a left):SM a=true:=by
 simp only[qc,zJ,id] at h0
 by_cases c0:rD a.nP left<0
 ·simp only[c0,decide_true,cond_true] at h0;omega
 simp only[c0,decide_false,cond_false] at h0
 have k0:=U9 (nn.nuo NQ) h1 h2 (Int.not_lt.1 c0)
 by_cases c1:t9 a.ny (rD a.nP left)<0
 ·simp only[c1,decide_true,cond_true] at h0;omega
 have k1:=nbP (nn.Rl NQ) (Int.not_lt.1 c0) k0.1 (Int.not_lt.1 c1)
 have k2:=nui (nn.Rl NQ) (Int.not_lt.1 c0) k0.1 (Int.not_lt.1 c1)
 have f1:a.nP.pN.length≤1048576:=by
  have hw:=(oS (nE.npJ (nn.nuo NQ))).1
  obtain⟨e,hl⟩:=nmM h1 h2 hw
  simp only[rD,RB,id,pF,e] at c0
  by_cases hn:left - len a.nP.pN<0
  ·simp [hn] at c0
  ·simp only[len] at hn;omega
 have f2:sm a.ny=true:=by
  have:=k1.2
  simp only[tS,Bool.and_eq_true] at this
  exact this.1
 simp only[SM,f2,Bool.true_and,Bool.and_eq_true,decide_eq_true_eq]
 omega
theorem nvM {a:nt} {left:Int} (NQ:ka nt.ct a.enc) (h1:0≤left) (h2:left≤1048576) (h0:0≤vZ a left):TX a=true:=by
 simp only[vZ,RA,id] at h0
 by_cases c0:pJ a.nZ left<0
 ·simp only[c0,decide_true,cond_true] at h0;omega
 simp only[c0,decide_false,cond_false] at h0
 have k0:=Zm (nt.ntF NQ) h1 h2 (Int.not_lt.1 c0)
 by_cases c1:pF a.Maps (pJ a.nZ left)<0
 ·simp only[c1,decide_true,cond_true] at h0;omega
 simp only[c1,decide_false,cond_false] at h0
 have k1:=vK (Int.not_lt.1 c0) k0.1 (oS (nt.nvF NQ)).1 (Int.not_lt.1 c1)
 by_cases c2:qc a.Tx (pF a.Maps (pJ a.nZ left))<0
 ·simp only[c2,decide_true,cond_true] at h0;omega
 exact nwH (nt.nwT NQ) (Int.not_lt.1 c1) k1.1 (Int.not_lt.1 c2)
def Om (k_:Bytes→α) (n x:Int) (oL:Int→Rows→α) (i:Int) (n7:Rows):α:=
 bif decide (i<n) then
  bif Ec (Ec true (idx i n7)) (inl (Int.toNat i) n7) then
   oL (nS (i+1)) (List.set n7 (Int.toNat i) (bQ (nth n7 (Int.toNat i)) 0 [.int x]))
  else kd
 else k_ (toStr n7)
def Ol (k_:Bytes→α) (N:Nat) (n x:Int) (m_:Nat):Int→Rows→α:=
 Nat.rec (motive:=fun _=>Int→Rows→α) (fun _ _=>kd) (fun _ oL=>Om kd k_ n x oL) m_
theorem W9 (k_:Bytes→α) (N:Nat) (n x:Int) (m_:Nat):Ol kd k_ N n x (m_+1)=Om kd k_ n x (Ol kd k_ N n x m_):=rfl
def VE (k_:Bytes→α) (l0:Int→Rows→α) (n x:Int):α:=
 bif Ec true (wW 1 n n) then
  l0 0 (List.replicate (Int.toNat n) ([.int 0]:List DC))
 else kd
def ner (k_:Bytes→α) (N:Nat) (n x:Int):α:=VE kd k_ (Ol kd k_ N n x N) n x
def Qz (n x:Int):Bool:=bif decide (0≤n) then decide (n≤1000) else false
def N3 (n x:Int):Bytes:=List.replicate n.toNat (UInt8.ofNat x.toNat)
theorem nbY (n:Nat) {x:Int} (h0:0≤x) (h1:x≤255):(List.replicate n [DC.int x]:Rows)=ofStr (List.replicate n (UInt8.ofNat x.toNat)):=by
 simp only[ofStr,List.map_replicate,nvR h0 h1]
theorem nrL (k_:Bytes→α) (n x:Int) (h_x:G3 (.int .u8) (.int x)) (aJ:Qz n x=true):∃N,ner kd k_ N n x=k_ (N3 n x):=by
 obtain⟨h0,h1⟩:=pf.1 aJ
 have hx:0≤x∧x≤255:=by
  have h:=h_x
  simp only[G3,DC.int.injEq] at h
  obtain⟨m,rfl,h⟩:=h
  simpa [BQ,IntKind.min,IntKind.max,IntKind.signed,IntKind.bits] using h
 refine⟨n.toNat+1, ?_⟩
 unfold ner VE N3
 have hmk:wW 1 n n=true:=by simp only[wW,Bool.and_eq_true,decide_eq_true_eq];omega
 simp only[hmk,ng,cond_true]
 have hr:(List.replicate n.toNat [DC.int 0]:Rows).length=n.toNat:=by simp
 have:=nuI (List.replicate n.toNat [DC.int 0]) (Ol kd k_ (n.toNat+1) n x) (fun o=>k_ (toStr o)) (fun _=>[.int x]) ?_ ?_
 ·rw[hr] at this
  rw[this,List.map_replicate,nbY _ hx.1 hx.2,ze]
 ·intro q i o h ho hn
  rw[hr] at h
  rw[W9]
  have Ch:i<o.length:=by rw[ho,hr];exact h
  have en:nth o i=[DC.int 0]:=by
   rw[hn]
   simp only[nth,List.getD_eq_getElem?_getD]
   rw[List.getElem?_replicate_of_lt h]
   rfl
  simp only[Om,decide_eq_true (show (i:Int)<n by omega),n9 Ch,sF Ch,Int.toNat_natCast,ng,cond_true,en,nao,nJ (show -9223372036854775808≤(i:Int)+1 by omega) (show (i:Int)+1≤9223372036854775807 by omega)]
 ·intro q o ho
  rw[hr,W9]
  simp only[Om,decide_eq_false (show ¬((n.toNat:Nat):Int)<n by omega),cond_false]
def nj0 (b n:Int):Bytes:=N3 n b
def ne2 (b n:Int):Bool:=Qz n b
def PF (k_:Bytes→α) (b x:Int) (oL:Int→Rows→α) (oA:Int) (n7:Rows):α:=
 bif decide (oA<x) then
  bif Ec (Ec true (idx oA n7)) (inl (Int.toNat oA) n7) then
   oL (nS (oA+1)) (List.set n7 (Int.toNat oA) (bQ (nth n7 (Int.toNat oA)) 0 [.int b]))
  else kd
 else k_ (toStr n7)
def PE (k_:Bytes→α) (N:Nat) (b x:Int) (m_:Nat):Int→Rows→α:=
 Nat.rec (motive:=fun _=>Int→Rows→α) (fun _ _=>kd) (fun _ oL=>PF kd k_ b x oL) m_
theorem Yp (k_:Bytes→α) (N:Nat) (b x:Int) (m_:Nat):PE kd k_ N b x (m_+1)=PF kd k_ b x (PE kd k_ N b x m_):=rfl
def Xw (k_:Bytes→α) (l0:Int→Int→Rows→α) (b n:Int):α:=
 bif Ec true (wW 1 n n) then
  l0 (len (List.replicate (Int.toNat n) ([.int 0]:List DC))) 0 (List.replicate (Int.toNat n) ([.int 0]:List DC))
 else kd
def nfX (k_:Bytes→α) (N:Nat) (b n:Int):α:=Xw kd k_ (fun x=>PE kd k_ N b x N) b n
theorem nsr (k_:Bytes→α) (b n:Int) (h_b:G3 (.int .u8) (.int b)) (aJ:ne2 b n=true):∃N,nfX kd k_ N b n=k_ (nj0 b n):=by
 obtain⟨h0,h1⟩:=pf.1 (show (bif decide (0≤n) then decide (n≤1000) else false)=true from aJ)
 have hx:0≤b∧b≤255:=by
  have h:=h_b
  simp only[G3,DC.int.injEq] at h
  obtain⟨m,rfl,h⟩:=h
  simpa [BQ,IntKind.min,IntKind.max,IntKind.signed,IntKind.bits] using h
 refine⟨n.toNat+1, ?_⟩
 unfold nfX Xw nj0 N3
 have hmk:wW 1 n n=true:=by simp only[wW,Bool.and_eq_true,decide_eq_true_eq];omega
 simp only[hmk,ng,cond_true]
 have hr:(List.replicate n.toNat [DC.int 0]:Rows).length=n.toNat:=by simp
 have hn:(len (List.replicate n.toNat [DC.int 0]):Int)=n:=by simp only[len,hr];omega
 rw[hn]
 have:=nuI (List.replicate n.toNat [DC.int 0]) (PE kd k_ (n.toNat+1) b n) (fun o=>k_ (toStr o)) (fun _=>[.int b]) ?_ ?_
 ·rw[hr] at this
  rw[this,List.map_replicate,nbY _ hx.1 hx.2,ze]
 ·intro q i o h ho hn
  rw[hr] at h
  rw[Yp]
  have Ch:i<o.length:=by rw[ho,hr];exact h
  have en:nth o i=[DC.int 0]:=by
   rw[hn]
   simp only[nth,List.getD_eq_getElem?_getD]
   rw[List.getElem?_replicate_of_lt h]
   rfl
  simp only[PF,decide_eq_true (show (i:Int)<n by omega),n9 Ch,sF Ch,Int.toNat_natCast,ng,cond_true,en,nao,nJ (show -9223372036854775808≤(i:Int)+1 by omega) (show (i:Int)+1≤9223372036854775807 by omega)]
 ·intro q o ho
  rw[hr,Yp]
  simp only[PF,decide_eq_false (show ¬((n.toNat:Nat):Int)<n by omega),cond_false]
def nit (k_:Int→α) (s:Bytes) (at_:Int):α:=
 bif bif decide (at_<0) then true else decide (nS ((len s) - 4)<at_) then k_ (-1)
 else bif Ec (Ec (Ec (Ec true (idx at_ s)) (idx (nS (at_+1)) s)) (idx (nS (at_+2)) s)) (idx (nS (at_+3)) s) then
   k_ (bits .or .i64 (bits .or .i64 (bits .or .i64 (nfz .i64 (nS (y9 s at_)) 24) (nfz .i64 (nS (y9 s (nS (at_+1)))) 16)) (nfz .i64 (nS (y9 s (nS (at_+2)))) 8)) (nS (y9 s (nS (at_+3)))))
  else kd
def npM (s:Bytes) (at_:Int):Int:=bif bif decide (at_<0) then true else decide (len s<at_+4) then -1 else (y9 s at_)*16777216+(y9 s (at_+1))*65536+(y9 s (at_+2))*256+y9 s (at_+3)
theorem ntW (k_:Int→α) (s:Bytes) (at_:Int) (Nr:G3 .str (.str s)) (Pj:G3 .i (.int at_)):nit kd k_ s at_=k_ (npM s at_):=by
 have hl:=zf Nr
 have ha:=wy Pj
 have hl0:0≤len s:=by simp [len]
 have GG:len s≤9223372036854775807:=by simp only[len];omega
 have dR:∀j:Int,at_≤j→j<at_+4→0≤at_→at_+4≤len s→idx j s=true:=by
  intro j h1 h2 h3 h4
  simp only[len] at h4
  simp only[idx,Bool.and_eq_true,decide_eq_true_eq]
  omega
 unfold nit npM
 by_cases hc:at_<0
 ·simp only[hc,decide_true,cond_true]
 ·by_cases hd:len s<at_+4
  ·have JG:nS (len s - 4)<at_:=by rw[nJ (by omega) (by omega)];omega
   simp only[hc,hd,JG,decide_true,decide_false,cond_true,cond_false]
  ·have JG:¬nS (len s - 4)<at_:=by rw[nJ (by omega) (by omega)];omega
   have w1:nS (at_+1)=at_+1:=nJ (by omega) (by omega)
   have w2:nS (at_+2)=at_+2:=nJ (by omega) (by omega)
   have w3:nS (at_+3)=at_+3:=nJ (by omega) (by omega)
   have b0:=x_ s at_
   have c0:=x9 s at_
   have b1:=x_ s (at_+1)
   have c1:=x9 s (at_+1)
   have b2:=x_ s (at_+2)
   have c2:=x9 s (at_+2)
   have b3:=x_ s (at_+3)
   have c3:=x9 s (at_+3)
   simp only[hc,hd,JG,decide_false,cond_false,w1,w2,w3,dR at_ (by omega) (by omega) (by omega) (by omega),dR (at_+1) (by omega) (by omega) (by omega) (by omega),dR (at_+2) (by omega) (by omega) (by omega) (by omega),dR (at_+3) (by omega) (by omega) (by omega) (by omega),ng,cond_true]
   rw[nJ (n:=y9 s at_) (by omega) (by omega),nJ (n:=y9 s (at_+1)) (by omega) (by omega),nJ (n:=y9 s (at_+2)) (by omega) (by omega),nJ (n:=y9 s (at_+3)) (by omega) (by omega)]
   rw[nxl,nwS,nwm]
   rw[nJ (n:=y9 s at_*16777216) (by omega) (by omega),nJ (n:=y9 s (at_+1)*65536) (by omega) (by omega),nJ (n:=y9 s (at_+2)*256) (by omega) (by omega)]
   rw[ne1 24 (x:=y9 s at_*16777216) (by omega) (by omega) (by omega) (by omega) (by omega) (by omega)]
   rw[ne1 16 (y:=y9 s (at_+2)*256) (by omega) (by omega) (by omega) (by omega) (by omega) (by omega)]
   rw[ne1 8 (y:=y9 s (at_+3)) (by omega) (by omega) (by omega) (by omega) (by omega) (by omega)]
def Rh {α:Type} (k_:Bool→α) (s:Bytes) (at_ n:Int):α:=
 k_ (bif decide (0≤at_) then bif decide (at_≤len s) then decide (n≤nS ((len s) - at_)) else false else false)
def rE (s:Bytes) (at_ n:Int):Bool:=Rh id s at_ n
theorem nmE {α:Type} (k_:Bool→α) (s:Bytes) (at_ n:Int):Rh k_ s at_ n=k_ (rE s at_ n):=by
 rfl
def nj6 (k_:Int→α) (s:Bytes) (at_:Int):α:=
 bif !(rE s at_ 2) then k_ (-1)
 else bif Ec (Ec true (idx at_ s)) (idx (nS (at_+1)) s) then
   k_ (nS ((nfz .i64 (nS (y9 s at_)) 8)+(nS (y9 s (nS (at_+1))))))
  else kd
def TL (s:Bytes) (at_:Int):Int:=bif !(rE s at_ 2) then -1 else (y9 s at_)*256+y9 s (at_+1)
theorem within_iff {s:Bytes} {at_ n:Int} (hs:s.length≤9223372036854775807):rE s at_ n=true↔0≤at_∧at_≤len s∧at_+n≤len s:=by
 have hl0:0≤len s:=by simp [len]
 have GG:len s≤9223372036854775807:=by simp only[len];omega
 unfold rE Rh
 by_cases h1:0≤at_
 ·by_cases h2:at_≤len s
  ·rw[nJ (by omega) (by omega)]
   simp only[h1,h2,decide_true,cond_true,id,true_and]
   constructor
   ·intro h
    have:=of_decide_eq_true h
    omega
   ·intro h
    exact decide_eq_true (by omega)
  ·simp [h1,h2]
 ·simp [h1]
theorem nuc (k_:Int→α) (s:Bytes) (at_:Int) (Nr:G3 .str (.str s)):nj6 kd k_ s at_=k_ (TL s at_):=by
 have hl:=zf Nr
 have hl0:0≤len s:=by simp [len]
 have GG:len s≤9223372036854775807:=by simp only[len];omega
 unfold nj6 TL
 cases hw:rE s at_ 2
 ·rfl
 ·have hh:=(within_iff hl).1 hw
  have w1:nS (at_+1)=at_+1:=nJ (by omega) (by omega)
  have dR:∀j:Int,0≤j→j<len s→idx j s=true:=by
   intro j h1 h2
   simp only[len] at h2
   simp only[idx,Bool.and_eq_true,decide_eq_true_eq]
   omega
  have b0:=x_ s at_
  have c0:=x9 s at_
  have b1:=x_ s (at_+1)
  have c1:=x9 s (at_+1)
  simp only[w1,dR at_ (by omega) (by omega),dR (at_+1) (by omega) (by omega),ng,cond_true,cond_false,Bool.not_true]
  rw[nJ (n:=y9 s at_) (by omega) (by omega),nJ (n:=y9 s (at_+1)) (by omega) (by omega),nwm,nJ (n:=y9 s at_*256) (by omega) (by omega),nJ (by omega) (by omega)]
def nj7 {α:Type} (k_:Int→α) (s:Bytes) (at_:Int):α:=
 bif !(rE s at_ 4) then k_ (-1)
 else k_ (nS ((nfz .i64 (TL s at_) 16)+(TL s (nS (at_+2)))))
theorem nud {α:Type} (k_:Int→α) (s:Bytes) (at_:Int) (Nr:G3 .str (.str s)) (Pj:G3 .i (.int at_)):nj7 k_ s at_=k_ (npM s at_):=by
 have hl:=zf Nr
 have hl0:0≤len s:=by simp [len]
 have GG:len s≤9223372036854775807:=by simp only[len];omega
 have ha:=wy Pj
 unfold nj7 npM
 cases hw:rE s at_ 4
 ·have hh:¬(0≤at_∧at_≤len s∧at_+4≤len s):=fun h=>by rw[(within_iff hl).2 h] at hw;cases hw
  have:(bif decide (at_<0) then true else decide (len s<at_+4))=true:=by
   by_cases h1:at_<0
   ·simp [h1]
   ·simp only[h1,decide_false,cond_false,decide_eq_true_eq];omega
  rw[this]
  rfl
 ·have hh:=(within_iff hl).1 hw
  have:(bif decide (at_<0) then true else decide (len s<at_+4))=false:=by
   rw[show decide (at_<0)=false from decide_eq_false (by omega),show decide (len s<at_+4)=false from decide_eq_false (by omega)]
   rfl
  rw[this]
  have w2:nS (at_+2)=at_+2:=nJ (by omega) (by omega)
  have h1:rE s at_ 2=true:=(within_iff hl).2 (by omega)
  have h2:rE s (at_+2) 2=true:=(within_iff hl).2 (by omega)
  have b0:=x_ s at_
  have c0:=x9 s at_
  have b1:=x_ s (at_+1)
  have c1:=x9 s (at_+1)
  have b2:=x_ s (at_+2)
  have c2:=x9 s (at_+2)
  have b3:=x_ s (at_+3)
  have c3:=x9 s (at_+3)
  have e:at_+2+1=at_+3:=by omega
  simp only[w2,TL,h1,h2,e,Bool.not_true,cond_false]
  rw[nwS,nJ (n:=(y9 s at_*256+y9 s (at_+1))*65536) (by omega) (by omega),nJ (by omega) (by omega)]
  exact congrArg k_ (by omega)
def Rw {α:Type} (k_:Bytes→α) (v:Int):α:=
 bif !(nj v 0 4294967295) then k_ []
 else k_ (toStr ([[.int (IntKind.wrap .u8 (VS .i64 v 24))],[.int (IntKind.wrap .u8 (VS .i64 v 16))],[.int (IntKind.wrap .u8 (VS .i64 v 8))],[.int (IntKind.wrap .u8 v)]]))
def pQ (v:Int):Bytes:=Rw id v
theorem nfQ {α:Type} (k_:Bytes→α) (v:Int):Rw k_ v=k_ (pQ v):=by
 exact J5 rfl rfl
end
end Go.Proofs.YtoaflbnkiobhdaaGreat.Pl
