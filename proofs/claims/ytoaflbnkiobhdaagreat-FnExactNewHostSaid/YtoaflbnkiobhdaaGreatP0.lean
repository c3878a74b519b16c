/- Plain forms. Conditions: as each says. -/
import Derived.Test.YtoaflbnkiobhdaaGreatPre
import Derived.Test.YtoaflbnkiobhdaaGreatLem
import Derived.Test.YtoaflbnkiobhdaaGreatDp
import Derived.Test.YtoaflbnkiobhdaaGreatBit
set_option linter.unusedVariables false
set_option linter.unusedSimpArgs false
set_option maxRecDepth 100000
namespace Go.Proofs.YtoaflbnkiobhdaaGreat.Pl
open Vm
noncomputable section
variable {α:Type} (jX:α)
structure ni where
 nr:Rows
def ni.enc (x:ni):List DC:=[.sl x.nr]
def ni.nh (r:List DC) (o:Nat):ni:=⟨rR r (o+0)⟩
def ni.ct:List CT:=[.sl [.i,.i,.i,.i,.i,.i,.i]]
theorem ni.eta {r:List DC} (h:jV ni.ct r):(ni.nh r 0).enc=r:=(show (ni.nh r 0).enc=rJ ni.ct r 0 from by kernel_rfl).trans (qm h)
theorem ni.nC {r:List CT} {ds:List DC} (h:jV (ni.ct++r) ds):∃(x:ni) (aW:List DC),ds=x.enc++aW∧jV ni.ct x.enc∧jV r aW:=by
 obtain⟨d1,d2,rfl,h1,h2⟩:=pj h
 exact⟨ni.nh d1 0,d2,by rw[ni.eta h1],by rw[ni.eta h1];exact h1,h2⟩
theorem ni.Qc {x:ni} (h:jV ni.ct x.enc):GO (.sl [.i,.i,.i,.i,.i,.i,.i]) (.sl x.nr):=oE 0 h rfl rfl
structure oP where
 niz:Int
 nhx:Int
 neD:Int
 neG:Bool
def oP.enc (x:oP):List DC:=[.int x.niz,.int x.nhx,.int x.neD,.bool x.neG]
def oP.nh (r:List DC) (o:Nat):oP:=⟨rI r (o+0),rI r (o+1),rI r (o+2),rB r (o+3)⟩
def oP.ct:List CT:=[.i,.i,.i,.bool]
theorem oP.eta {r:List DC} (h:jV oP.ct r):(oP.nh r 0).enc=r:=(show (oP.nh r 0).enc=rJ oP.ct r 0 from by kernel_rfl).trans (qm h)
theorem oP.nC {r:List CT} {ds:List DC} (h:jV (oP.ct++r) ds):∃(x:oP) (aW:List DC),ds=x.enc++aW∧jV oP.ct x.enc∧jV r aW:=by
 obtain⟨d1,d2,rfl,h1,h2⟩:=pj h
 exact⟨oP.nh d1 0,d2,by rw[oP.eta h1],by rw[oP.eta h1];exact h1,h2⟩
structure nz where
 Key:Bytes
 Table:Rows
def nz.enc (x:nz):List DC:=[.str x.Key,.sl x.Table]
def nz.nh (r:List DC) (o:Nat):nz:=⟨rS r (o+0),rR r (o+1)⟩
def nz.ct:List CT:=[.str,.sl [.i]]
theorem nz.eta {r:List DC} (h:jV nz.ct r):(nz.nh r 0).enc=r:=(show (nz.nh r 0).enc=rJ nz.ct r 0 from by kernel_rfl).trans (qm h)
theorem nz.nC {r:List CT} {ds:List DC} (h:jV (nz.ct++r) ds):∃(x:nz) (aW:List DC),ds=x.enc++aW∧jV nz.ct x.enc∧jV r aW:=by
 obtain⟨d1,d2,rfl,h1,h2⟩:=pj h
 exact⟨nz.nh d1 0,d2,by rw[nz.eta h1],by rw[nz.eta h1];exact h1,h2⟩
theorem nz.nkB {x:nz} (h:jV nz.ct x.enc):GO .str (.str x.Key):=oE 0 h rfl rfl
theorem nz.Qd {x:nz} (h:jV nz.ct x.enc):GO (.sl [.i]) (.sl x.Table):=oE 1 h rfl rfl
structure nt where
 oB:Int
 nK:Int
 Count:Int
 nY:Rows
def nt.enc (x:nt):List DC:=[.int x.oB,.int x.nK,.int x.Count,.sl x.nY]
def nt.nh (r:List DC) (o:Nat):nt:=⟨rI r (o+0),rI r (o+1),rI r (o+2),rR r (o+3)⟩
def nt.ct:List CT:=[.i,.i,.i,.sl [.i]]
theorem nt.eta {r:List DC} (h:jV nt.ct r):(nt.nh r 0).enc=r:=(show (nt.nh r 0).enc=rJ nt.ct r 0 from by kernel_rfl).trans (qm h)
theorem nt.nC {r:List CT} {ds:List DC} (h:jV (nt.ct++r) ds):∃(x:nt) (aW:List DC),ds=x.enc++aW∧jV nt.ct x.enc∧jV r aW:=by
 obtain⟨d1,d2,rfl,h1,h2⟩:=pj h
 exact⟨nt.nh d1 0,d2,by rw[nt.eta h1],by rw[nt.eta h1];exact h1,h2⟩
theorem nt.ni4 {x:nt} (h:jV nt.ct x.enc):GO .i (.int x.oB):=oE 0 h rfl rfl
theorem nt.neB {x:nt} (h:jV nt.ct x.enc):GO .i (.int x.nK):=oE 1 h rfl rfl
theorem nt.ngk {x:nt} (h:jV nt.ct x.enc):GO .i (.int x.Count):=oE 2 h rfl rfl
theorem nt.ni5 {x:nt} (h:jV nt.ct x.enc):GO (.sl [.i]) (.sl x.nY):=oE 3 h rfl rfl
structure na where
 nF:Rows
def na.enc (x:na):List DC:=[.sl x.nF]
def na.nh (r:List DC) (o:Nat):na:=⟨rR r (o+0)⟩
def na.ct:List CT:=[.sl [.str]]
theorem na.eta {r:List DC} (h:jV na.ct r):(na.nh r 0).enc=r:=(show (na.nh r 0).enc=rJ na.ct r 0 from by kernel_rfl).trans (qm h)
theorem na.nC {r:List CT} {ds:List DC} (h:jV (na.ct++r) ds):∃(x:na) (aW:List DC),ds=x.enc++aW∧jV na.ct x.enc∧jV r aW:=by
 obtain⟨d1,d2,rfl,h1,h2⟩:=pj h
 exact⟨na.nh d1 0,d2,by rw[na.eta h1],by rw[na.eta h1];exact h1,h2⟩
theorem na.Nw {x:na} (h:jV na.ct x.enc):GO (.sl [.str]) (.sl x.nF):=oE 0 h rfl rfl
structure nj where
 nP:Rows
 Table:ni
 nG:nz
def nj.enc (x:nj):List DC:=[.sl x.nP,.sl x.Table.nr,.str x.nG.Key,.sl x.nG.Table]
def nj.nh (r:List DC) (o:Nat):nj:=⟨rR r (o+0),ni.nh r (o+1),nz.nh r (o+2)⟩
def nj.ct:List CT:=[.sl [.i,.i,.i,.i,.i,.i,.i,.i,.i],.sl [.i,.i,.i,.i,.i,.i,.i],.str,.sl [.i]]
theorem nj.eta {r:List DC} (h:jV nj.ct r):(nj.nh r 0).enc=r:=(show (nj.nh r 0).enc=rJ nj.ct r 0 from by kernel_rfl).trans (qm h)
theorem nj.nC {r:List CT} {ds:List DC} (h:jV (nj.ct++r) ds):∃(x:nj) (aW:List DC),ds=x.enc++aW∧jV nj.ct x.enc∧jV r aW:=by
 obtain⟨d1,d2,rfl,h1,h2⟩:=pj h
 exact⟨nj.nh d1 0,d2,by rw[nj.eta h1],by rw[nj.eta h1];exact h1,h2⟩
theorem nj.ngm {x:nj} (h:jV nj.ct x.enc):GO (.sl [.i,.i,.i,.i,.i,.i,.i,.i,.i]) (.sl x.nP):=oE 0 h rfl rfl
theorem nj.Qd {x:nj} (h:jV nj.ct x.enc):jV ni.ct x.Table.enc:=WI 1 1 h
theorem nj.njk {x:nj} (h:jV nj.ct x.enc):jV nz.ct x.nG.enc:=WI 2 2 h
structure ny where
 oB:Int
 nK:Int
 Head:Int
 pM:Int
def ny.enc (x:ny):List DC:=[.int x.oB,.int x.nK,.int x.Head,.int x.pM]
def ny.nh (r:List DC) (o:Nat):ny:=⟨rI r (o+0),rI r (o+1),rI r (o+2),rI r (o+3)⟩
def ny.ct:List CT:=[.i,.i,.i,.i]
theorem ny.eta {r:List DC} (h:jV ny.ct r):(ny.nh r 0).enc=r:=(show (ny.nh r 0).enc=rJ ny.ct r 0 from by kernel_rfl).trans (qm h)
theorem ny.nC {r:List CT} {ds:List DC} (h:jV (ny.ct++r) ds):∃(x:ny) (aW:List DC),ds=x.enc++aW∧jV ny.ct x.enc∧jV r aW:=by
 obtain⟨d1,d2,rfl,h1,h2⟩:=pj h
 exact⟨ny.nh d1 0,d2,by rw[ny.eta h1],by rw[ny.eta h1];exact h1,h2⟩
theorem ny.ni4 {x:ny} (h:jV ny.ct x.enc):GO .i (.int x.oB):=oE 0 h rfl rfl
theorem ny.neB {x:ny} (h:jV ny.ct x.enc):GO .i (.int x.nK):=oE 1 h rfl rfl
theorem ny.nkb {x:ny} (h:jV ny.ct x.enc):GO .i (.int x.Head):=oE 2 h rfl rfl
theorem ny.nke {x:ny} (h:jV ny.ct x.enc):GO .i (.int x.pM):=oE 3 h rfl rfl
structure nv where
 oB:Int
 nK:Int
 Count:Int
def nv.enc (x:nv):List DC:=[.int x.oB,.int x.nK,.int x.Count]
def nv.nh (r:List DC) (o:Nat):nv:=⟨rI r (o+0),rI r (o+1),rI r (o+2)⟩
def nv.ct:List CT:=[.i,.i,.i]
theorem nv.eta {r:List DC} (h:jV nv.ct r):(nv.nh r 0).enc=r:=(show (nv.nh r 0).enc=rJ nv.ct r 0 from by kernel_rfl).trans (qm h)
theorem nv.nC {r:List CT} {ds:List DC} (h:jV (nv.ct++r) ds):∃(x:nv) (aW:List DC),ds=x.enc++aW∧jV nv.ct x.enc∧jV r aW:=by
 obtain⟨d1,d2,rfl,h1,h2⟩:=pj h
 exact⟨nv.nh d1 0,d2,by rw[nv.eta h1],by rw[nv.eta h1];exact h1,h2⟩
theorem nv.ni4 {x:nv} (h:jV nv.ct x.enc):GO .i (.int x.oB):=oE 0 h rfl rfl
theorem nv.neB {x:nv} (h:jV nv.ct x.enc):GO .i (.int x.nK):=oE 1 h rfl rfl
theorem nv.ngk {x:nv} (h:jV nv.ct x.enc):GO .i (.int x.Count):=oE 2 h rfl rfl
structure oe where
 Kind:Int
 oW:Int
 oV:Int
 Seq:Int
 Ack:Int
 Flags:Int
 U4:Int
 Body:Bytes
def oe.enc (x:oe):List DC:=[.int x.Kind,.int x.oW,.int x.oV,.int x.Seq,.int x.Ack,.int x.Flags,.int x.U4,.str x.Body]
def oe.nh (r:List DC) (o:Nat):oe:=⟨rI r (o+0),rI r (o+1),rI r (o+2),rI r (o+3),rI r (o+4),rI r (o+5),rI r (o+6),rS r (o+7)⟩
def oe.ct:List CT:=[.i,.i,.i,.i,.i,.i,.i,.str]
theorem oe.eta {r:List DC} (h:jV oe.ct r):(oe.nh r 0).enc=r:=(show (oe.nh r 0).enc=rJ oe.ct r 0 from by kernel_rfl).trans (qm h)
theorem oe.nC {r:List CT} {ds:List DC} (h:jV (oe.ct++r) ds):∃(x:oe) (aW:List DC),ds=x.enc++aW∧jV oe.ct x.enc∧jV r aW:=by
 obtain⟨d1,d2,rfl,h1,h2⟩:=pj h
 exact⟨oe.nh d1 0,d2,by rw[oe.eta h1],by rw[oe.eta h1];exact h1,h2⟩
theorem oe.neA {x:oe} (h:jV oe.ct x.enc):GO .i (.int x.Kind):=oE 0 h rfl rfl
theorem oe.Zk {x:oe} (h:jV oe.ct x.enc):GO .i (.int x.oW):=oE 1 h rfl rfl
theorem oe.Zj {x:oe} (h:jV oe.ct x.enc):GO .i (.int x.oV):=oE 2 h rfl rfl
theorem oe.njO {x:oe} (h:jV oe.ct x.enc):GO .i (.int x.Flags):=oE 5 h rfl rfl
structure oJ where
 X4:Int
 X5:Int
 Zp:Int
 Tos:Int
 Id:Int
 Ttl:Int
 qC:Int
 ru:Int
 Qi:oe
def oJ.enc (x:oJ):List DC:=[.int x.X4,.int x.X5,.int x.Zp,.int x.Tos,.int x.Id,.int x.Ttl,.int x.qC,.int x.ru,.int x.Qi.Kind,.int x.Qi.oW,.int x.Qi.oV,.int x.Qi.Seq,.int x.Qi.Ack,.int x.Qi.Flags,.int x.Qi.U4,.str x.Qi.Body]
def oJ.nh (r:List DC) (o:Nat):oJ:=⟨rI r (o+0),rI r (o+1),rI r (o+2),rI r (o+3),rI r (o+4),rI r (o+5),rI r (o+6),rI r (o+7),oe.nh r (o+8)⟩
def oJ.ct:List CT:=[.i,.i,.i,.i,.i,.i,.i,.i,.i,.i,.i,.i,.i,.i,.i,.str]
theorem oJ.eta {r:List DC} (h:jV oJ.ct r):(oJ.nh r 0).enc=r:=(show (oJ.nh r 0).enc=rJ oJ.ct r 0 from by kernel_rfl).trans (qm h)
theorem oJ.nC {r:List CT} {ds:List DC} (h:jV (oJ.ct++r) ds):∃(x:oJ) (aW:List DC),ds=x.enc++aW∧jV oJ.ct x.enc∧jV r aW:=by
 obtain⟨d1,d2,rfl,h1,h2⟩:=pj h
 exact⟨oJ.nh d1 0,d2,by rw[oJ.eta h1],by rw[oJ.eta h1];exact h1,h2⟩
theorem oJ.nkf {x:oJ} (h:jV oJ.ct x.enc):GO .i (.int x.Zp):=oE 2 h rfl rfl
theorem oJ.na6 {x:oJ} (h:jV oJ.ct x.enc):GO .i (.int x.qC):=oE 6 h rfl rfl
theorem oJ.ngl {x:oJ} (h:jV oJ.ct x.enc):GO .i (.int x.ru):=oE 7 h rfl rfl
structure pz where
 oh:oJ
 nK:Int
 Count:Int
def pz.enc (x:pz):List DC:=[.int x.oh.X4,.int x.oh.X5,.int x.oh.Zp,.int x.oh.Tos,.int x.oh.Id,.int x.oh.Ttl,.int x.oh.qC,.int x.oh.ru,.int x.oh.Qi.Kind,.int x.oh.Qi.oW,.int x.oh.Qi.oV,.int x.oh.Qi.Seq,.int x.oh.Qi.Ack,.int x.oh.Qi.Flags,.int x.oh.Qi.U4,.str x.oh.Qi.Body,.int x.nK,.int x.Count]
def pz.nh (r:List DC) (o:Nat):pz:=⟨oJ.nh r (o+0),rI r (o+16),rI r (o+17)⟩
def pz.ct:List CT:=[.i,.i,.i,.i,.i,.i,.i,.i,.i,.i,.i,.i,.i,.i,.i,.str,.i,.i]
theorem pz.eta {r:List DC} (h:jV pz.ct r):(pz.nh r 0).enc=r:=(show (pz.nh r 0).enc=rJ pz.ct r 0 from by kernel_rfl).trans (qm h)
theorem pz.nC {r:List CT} {ds:List DC} (h:jV (pz.ct++r) ds):∃(x:pz) (aW:List DC),ds=x.enc++aW∧jV pz.ct x.enc∧jV r aW:=by
 obtain⟨d1,d2,rfl,h1,h2⟩:=pj h
 exact⟨pz.nh d1 0,d2,by rw[pz.eta h1],by rw[pz.eta h1];exact h1,h2⟩
theorem pz.neB {x:pz} (h:jV pz.ct x.enc):GO .i (.int x.nK):=oE 16 h rfl rfl
theorem pz.ngk {x:pz} (h:jV pz.ct x.enc):GO .i (.int x.Count):=oE 17 h rfl rfl
structure nW where
 Ring:ny
 Device:nv
 Driver:nv
 rq:pz
 Zo:Bool
 Zm:Int
def nW.enc (x:nW):List DC:=[.int x.Ring.oB,.int x.Ring.nK,.int x.Ring.Head,.int x.Ring.pM,.int x.Device.oB,.int x.Device.nK,.int x.Device.Count,.int x.Driver.oB,.int x.Driver.nK,.int x.Driver.Count,.int x.rq.oh.X4,.int x.rq.oh.X5,.int x.rq.oh.Zp,.int x.rq.oh.Tos,.int x.rq.oh.Id,.int x.rq.oh.Ttl,.int x.rq.oh.qC,.int x.rq.oh.ru,.int x.rq.oh.Qi.Kind,.int x.rq.oh.Qi.oW,.int x.rq.oh.Qi.oV,.int x.rq.oh.Qi.Seq,.int x.rq.oh.Qi.Ack,.int x.rq.oh.Qi.Flags,.int x.rq.oh.Qi.U4,.str x.rq.oh.Qi.Body,.int x.rq.nK,.int x.rq.Count,.bool x.Zo,.int x.Zm]
def nW.nh (r:List DC) (o:Nat):nW:=⟨ny.nh r (o+0),nv.nh r (o+4),nv.nh r (o+7),pz.nh r (o+10),rB r (o+28),rI r (o+29)⟩
def nW.ct:List CT:=[.i,.i,.i,.i,.i,.i,.i,.i,.i,.i,.i,.i,.i,.i,.i,.i,.i,.i,.i,.i,.i,.i,.i,.i,.i,.str,.i,.i,.bool,.i]
theorem nW.eta {r:List DC} (h:jV nW.ct r):(nW.nh r 0).enc=r:=(show (nW.nh r 0).enc=rJ nW.ct r 0 from by kernel_rfl).trans (qm h)
theorem nW.nC {r:List CT} {ds:List DC} (h:jV (nW.ct++r) ds):∃(x:nW) (aW:List DC),ds=x.enc++aW∧jV nW.ct x.enc∧jV r aW:=by
 obtain⟨d1,d2,rfl,h1,h2⟩:=pj h
 exact⟨nW.nh d1 0,d2,by rw[nW.eta h1],by rw[nW.eta h1];exact h1,h2⟩
theorem nW.nkd {x:nW} (h:jV nW.ct x.enc):jV ny.ct x.Ring.enc:=WI 0 4 h
structure qX where
 Nx:Int
 nr:Int
 Zl:Rows
def qX.enc (x:qX):List DC:=[.int x.Nx,.int x.nr,.sl x.Zl]
def qX.nh (r:List DC) (o:Nat):qX:=⟨rI r (o+0),rI r (o+1),rR r (o+2)⟩
def qX.ct:List CT:=[.i,.i,.sl [.i]]
theorem qX.eta {r:List DC} (h:jV qX.ct r):(qX.nh r 0).enc=r:=(show (qX.nh r 0).enc=rJ qX.ct r 0 from by kernel_rfl).trans (qm h)
theorem qX.nC {r:List CT} {ds:List DC} (h:jV (qX.ct++r) ds):∃(x:qX) (aW:List DC),ds=x.enc++aW∧jV qX.ct x.enc∧jV r aW:=by
 obtain⟨d1,d2,rfl,h1,h2⟩:=pj h
 exact⟨qX.nh d1 0,d2,by rw[qX.eta h1],by rw[qX.eta h1];exact h1,h2⟩
theorem qX.njj {x:qX} (h:jV qX.ct x.enc):GO .i (.int x.Nx):=oE 0 h rfl rfl
theorem qX.Qc {x:qX} (h:jV qX.ct x.enc):GO .i (.int x.nr):=oE 1 h rfl rfl
structure nH where
 Ring:ny
 oq:nt
 oS:Rows
 Next:Int
def nH.enc (x:nH):List DC:=[.int x.Ring.oB,.int x.Ring.nK,.int x.Ring.Head,.int x.Ring.pM,.int x.oq.oB,.int x.oq.nK,.int x.oq.Count,.sl x.oq.nY,.sl x.oS,.int x.Next]
def nH.nh (r:List DC) (o:Nat):nH:=⟨ny.nh r (o+0),nt.nh r (o+4),rR r (o+8),rI r (o+9)⟩
def nH.ct:List CT:=[.i,.i,.i,.i,.i,.i,.i,.sl [.i],.sl [.i,.i,.sl [.i]],.i]
theorem nH.eta {r:List DC} (h:jV nH.ct r):(nH.nh r 0).enc=r:=(show (nH.nh r 0).enc=rJ nH.ct r 0 from by kernel_rfl).trans (qm h)
theorem nH.nC {r:List CT} {ds:List DC} (h:jV (nH.ct++r) ds):∃(x:nH) (aW:List DC),ds=x.enc++aW∧jV nH.ct x.enc∧jV r aW:=by
 obtain⟨d1,d2,rfl,h1,h2⟩:=pj h
 exact⟨nH.nh d1 0,d2,by rw[nH.eta h1],by rw[nH.eta h1];exact h1,h2⟩
theorem nH.nkd {x:nH} (h:jV nH.ct x.enc):jV ny.ct x.Ring.enc:=WI 0 4 h
theorem nH.nkc {x:nH} (h:jV nH.ct x.enc):GO .i (.int x.Next):=oE 9 h rfl rfl
structure nD where
 Kind:Int
 qC:Int
 ru:Int
 oW:Int
 oV:Int
def nD.enc (x:nD):List DC:=[.int x.Kind,.int x.qC,.int x.ru,.int x.oW,.int x.oV]
def nD.nh (r:List DC) (o:Nat):nD:=⟨rI r (o+0),rI r (o+1),rI r (o+2),rI r (o+3),rI r (o+4)⟩
def nD.ct:List CT:=[.i,.i,.i,.i,.i]
theorem nD.eta {r:List DC} (h:jV nD.ct r):(nD.nh r 0).enc=r:=(show (nD.nh r 0).enc=rJ nD.ct r 0 from by kernel_rfl).trans (qm h)
theorem nD.nC {r:List CT} {ds:List DC} (h:jV (nD.ct++r) ds):∃(x:nD) (aW:List DC),ds=x.enc++aW∧jV nD.ct x.enc∧jV r aW:=by
 obtain⟨d1,d2,rfl,h1,h2⟩:=pj h
 exact⟨nD.nh d1 0,d2,by rw[nD.eta h1],by rw[nD.eta h1];exact h1,h2⟩
theorem nD.neA {x:nD} (h:jV nD.ct x.enc):GO .i (.int x.Kind):=oE 0 h rfl rfl
theorem nD.na6 {x:nD} (h:jV nD.ct x.enc):GO .i (.int x.qC):=oE 1 h rfl rfl
theorem nD.ngl {x:nD} (h:jV nD.ct x.enc):GO .i (.int x.ru):=oE 2 h rfl rfl
theorem nD.Zk {x:nD} (h:jV nD.ct x.enc):GO .i (.int x.oW):=oE 3 h rfl rfl
theorem nD.Zj {x:nD} (h:jV nD.ct x.enc):GO .i (.int x.oV):=oE 4 h rfl rfl
structure py where
 State:Int
 Qf:nD
 Queue:Int
def py.enc (x:py):List DC:=[.int x.State,.int x.Qf.Kind,.int x.Qf.qC,.int x.Qf.ru,.int x.Qf.oW,.int x.Qf.oV,.int x.Queue]
def py.nh (r:List DC) (o:Nat):py:=⟨rI r (o+0),nD.nh r (o+1),rI r (o+6)⟩
def py.ct:List CT:=[.i,.i,.i,.i,.i,.i,.i]
theorem py.eta {r:List DC} (h:jV py.ct r):(py.nh r 0).enc=r:=(show (py.nh r 0).enc=rJ py.ct r 0 from by kernel_rfl).trans (qm h)
theorem py.nC {r:List CT} {ds:List DC} (h:jV (py.ct++r) ds):∃(x:py) (aW:List DC),ds=x.enc++aW∧jV py.ct x.enc∧jV r aW:=by
 obtain⟨d1,d2,rfl,h1,h2⟩:=pj h
 exact⟨py.nh d1 0,d2,by rw[py.eta h1],by rw[py.eta h1];exact h1,h2⟩
theorem py.nka {x:py} (h:jV py.ct x.enc):jV nD.ct x.Qf.enc:=WI 1 5 h
theorem py.njQ {x:py} (h:jV py.ct x.enc):GO .i (.int x.Queue):=oE 6 h rfl rfl
structure nm where
 Qe:Int
 nN:Bool
 nZ:Rows
def nm.enc (x:nm):List DC:=[.int x.Qe,.bool x.nN,.sl x.nZ]
def nm.nh (r:List DC) (o:Nat):nm:=⟨rI r (o+0),rB r (o+1),rR r (o+2)⟩
def nm.ct:List CT:=[.i,.bool,.sl [.i]]
theorem nm.eta {r:List DC} (h:jV nm.ct r):(nm.nh r 0).enc=r:=(show (nm.nh r 0).enc=rJ nm.ct r 0 from by kernel_rfl).trans (qm h)
theorem nm.nC {r:List CT} {ds:List DC} (h:jV (nm.ct++r) ds):∃(x:nm) (aW:List DC),ds=x.enc++aW∧jV nm.ct x.enc∧jV r aW:=by
 obtain⟨d1,d2,rfl,h1,h2⟩:=pj h
 exact⟨nm.nh d1 0,d2,by rw[nm.eta h1],by rw[nm.eta h1];exact h1,h2⟩
theorem nm.ngn {x:nm} (h:jV nm.ct x.enc):GO (.sl [.i]) (.sl x.nZ):=oE 2 h rfl rfl
structure oy where
 Priority:Int
 Kind:Int
 qC:Int
 neu:Int
 RJ:Int
 U3:Int
 Zp:Int
 Action:Int
 Queue:Int
def oy.enc (x:oy):List DC:=[.int x.Priority,.int x.Kind,.int x.qC,.int x.neu,.int x.RJ,.int x.U3,.int x.Zp,.int x.Action,.int x.Queue]
def oy.nh (r:List DC) (o:Nat):oy:=⟨rI r (o+0),rI r (o+1),rI r (o+2),rI r (o+3),rI r (o+4),rI r (o+5),rI r (o+6),rI r (o+7),rI r (o+8)⟩
def oy.ct:List CT:=[.i,.i,.i,.i,.i,.i,.i,.i,.i]
theorem oy.eta {r:List DC} (h:jV oy.ct r):(oy.nh r 0).enc=r:=(show (oy.nh r 0).enc=rJ oy.ct r 0 from by kernel_rfl).trans (qm h)
theorem oy.nC {r:List CT} {ds:List DC} (h:jV (oy.ct++r) ds):∃(x:oy) (aW:List DC),ds=x.enc++aW∧jV oy.ct x.enc∧jV r aW:=by
 obtain⟨d1,d2,rfl,h1,h2⟩:=pj h
 exact⟨oy.nh d1 0,d2,by rw[oy.eta h1],by rw[oy.eta h1];exact h1,h2⟩
theorem oy.neA {x:oy} (h:jV oy.ct x.enc):GO .i (.int x.Kind):=oE 1 h rfl rfl
theorem oy.na6 {x:oy} (h:jV oy.ct x.enc):GO .i (.int x.qC):=oE 2 h rfl rfl
theorem oy.nkf {x:oy} (h:jV oy.ct x.enc):GO .i (.int x.Zp):=oE 6 h rfl rfl
theorem oy.njQ {x:oy} (h:jV oy.ct x.enc):GO .i (.int x.Queue):=oE 8 h rfl rfl
structure oR where
 Qf:nD
 Next:Int
 Data:Bytes
 nkh:Bool
def oR.enc (x:oR):List DC:=[.int x.Qf.Kind,.int x.Qf.qC,.int x.Qf.ru,.int x.Qf.oW,.int x.Qf.oV,.int x.Next,.str x.Data,.bool x.nkh]
def oR.nh (r:List DC) (o:Nat):oR:=⟨nD.nh r (o+0),rI r (o+5),rS r (o+6),rB r (o+7)⟩
def oR.ct:List CT:=[.i,.i,.i,.i,.i,.i,.str,.bool]
theorem oR.eta {r:List DC} (h:jV oR.ct r):(oR.nh r 0).enc=r:=(show (oR.nh r 0).enc=rJ oR.ct r 0 from by kernel_rfl).trans (qm h)
theorem oR.nC {r:List CT} {ds:List DC} (h:jV (oR.ct++r) ds):∃(x:oR) (aW:List DC),ds=x.enc++aW∧jV oR.ct x.enc∧jV r aW:=by
 obtain⟨d1,d2,rfl,h1,h2⟩:=pj h
 exact⟨oR.nh d1 0,d2,by rw[oR.eta h1],by rw[oR.eta h1];exact h1,h2⟩
theorem oR.nka {x:oR} (h:jV oR.ct x.enc):jV nD.ct x.Qf.enc:=WI 0 5 h
theorem oR.nkc {x:oR} (h:jV oR.ct x.enc):GO .i (.int x.Next):=oE 5 h rfl rfl
structure nO where
 pn:Int
 qc:Int
 Count:Int
 Time:Int
 rH:Bool
 rD:Bool
def nO.enc (x:nO):List DC:=[.int x.pn,.int x.qc,.int x.Count,.int x.Time,.bool x.rH,.bool x.rD]
def nO.nh (r:List DC) (o:Nat):nO:=⟨rI r (o+0),rI r (o+1),rI r (o+2),rI r (o+3),rB r (o+4),rB r (o+5)⟩
def nO.ct:List CT:=[.i,.i,.i,.i,.bool,.bool]
theorem nO.eta {r:List DC} (h:jV nO.ct r):(nO.nh r 0).enc=r:=(show (nO.nh r 0).enc=rJ nO.ct r 0 from by kernel_rfl).trans (qm h)
theorem nO.nC {r:List CT} {ds:List DC} (h:jV (nO.ct++r) ds):∃(x:nO) (aW:List DC),ds=x.enc++aW∧jV nO.ct x.enc∧jV r aW:=by
 obtain⟨d1,d2,rfl,h1,h2⟩:=pj h
 exact⟨nO.nh d1 0,d2,by rw[nO.eta h1],by rw[nO.eta h1];exact h1,h2⟩
theorem nO.ngk {x:nO} (h:jV nO.ct x.enc):GO .i (.int x.Count):=oE 2 h rfl rfl
structure og where
 Frames:Int
 Bad:Int
 uH:Int
 xf:Int
 Tk:Int
def og.enc (x:og):List DC:=[.int x.Frames,.int x.Bad,.int x.uH,.int x.xf,.int x.Tk]
def og.nh (r:List DC) (o:Nat):og:=⟨rI r (o+0),rI r (o+1),rI r (o+2),rI r (o+3),rI r (o+4)⟩
def og.ct:List CT:=[.i,.i,.i,.i,.i]
theorem og.eta {r:List DC} (h:jV og.ct r):(og.nh r 0).enc=r:=(show (og.nh r 0).enc=rJ og.ct r 0 from by kernel_rfl).trans (qm h)
theorem og.nC {r:List CT} {ds:List DC} (h:jV (og.ct++r) ds):∃(x:og) (aW:List DC),ds=x.enc++aW∧jV og.ct x.enc∧jV r aW:=by
 obtain⟨d1,d2,rfl,h1,h2⟩:=pj h
 exact⟨og.nh d1 0,d2,by rw[og.eta h1],by rw[og.eta h1];exact h1,h2⟩
structure nB where
 oD:na
 Maps:Rows
 Tx:nH
 Rx:Rows
 ph:Rows
 oO:Rows
 oN:Rows
 Filter:nm
 nJ:nj
 qD:Rows
 sN:Bool
 zZ:Rows
 pb:Rows
 pA:Rows
 Counters:og
def nB.enc (x:nB):List DC:=[.sl x.oD.nF,.sl x.Maps,.int x.Tx.Ring.oB,.int x.Tx.Ring.nK,.int x.Tx.Ring.Head,.int x.Tx.Ring.pM,.int x.Tx.oq.oB,.int x.Tx.oq.nK,.int x.Tx.oq.Count,.sl x.Tx.oq.nY,.sl x.Tx.oS,.int x.Tx.Next,.sl x.Rx,.sl x.ph,.sl x.oO,.sl x.oN,.int x.Filter.Qe,.bool x.Filter.nN,.sl x.Filter.nZ,.sl x.nJ.nP,.sl x.nJ.Table.nr,.str x.nJ.nG.Key,.sl x.nJ.nG.Table,.sl x.qD,.bool x.sN,.sl x.zZ,.sl x.pb,.sl x.pA,.int x.Counters.Frames,.int x.Counters.Bad,.int x.Counters.uH,.int x.Counters.xf,.int x.Counters.Tk]
def nB.nh (r:List DC) (o:Nat):nB:=⟨na.nh r (o+0),rR r (o+1),nH.nh r (o+2),rR r (o+12),rR r (o+13),rR r (o+14),rR r (o+15),nm.nh r (o+16),nj.nh r (o+19),rR r (o+23),rB r (o+24),rR r (o+25),rR r (o+26),rR r (o+27),og.nh r (o+28)⟩
def nB.ct:List CT:=[.sl [.str],.sl [.i,.i,.i,.bool],.i,.i,.i,.i,.i,.i,.i,.sl [.i],.sl [.i,.i,.sl [.i]],.i,.sl [.i,.i,.i,.i,.i,.i,.i,.i,.i,.i,.i,.i,.i,.i,.i,.i,.i,.i,.i,.i,.i,.i,.i,.i,.i,.str,.i,.i,.bool,.i],.sl [.i,.i,.i,.sl [.i]],.sl [.i,.i,.i,.i,.bool,.bool],.sl [.bool],.i,.bool,.sl [.i],.sl [.i,.i,.i,.i,.i,.i,.i,.i,.i],.sl [.i,.i,.i,.i,.i,.i,.i],.str,.sl [.i],.sl [.i,.i,.i,.i,.i,.i,.str,.bool],.bool,.sl [.str],.sl [.i],.sl [.i],.i,.i,.i,.i,.i]
theorem nB.eta {r:List DC} (h:jV nB.ct r):(nB.nh r 0).enc=r:=(show (nB.nh r 0).enc=rJ nB.ct r 0 from by kernel_rfl).trans (qm h)
theorem nB.nC {r:List CT} {ds:List DC} (h:jV (nB.ct++r) ds):∃(x:nB) (aW:List DC),ds=x.enc++aW∧jV nB.ct x.enc∧jV r aW:=by
 obtain⟨d1,d2,rfl,h1,h2⟩:=pj h
 exact⟨nB.nh d1 0,d2,by rw[nB.eta h1],by rw[nB.eta h1];exact h1,h2⟩
theorem nB.nkI {x:nB} (h:jV nB.ct x.enc):GO (.sl [.i,.i,.i,.i,.i,.i,.i,.i,.i,.i,.i,.i,.i,.i,.i,.i,.i,.i,.i,.i,.i,.i,.i,.i,.i,.str,.i,.i,.bool,.i]) (.sl x.Rx):=oE 12 h rfl rfl
theorem nB.njP {x:nB} (h:jV nB.ct x.enc):GO (.sl [.i,.i,.i,.sl [.i]]) (.sl x.ph):=oE 13 h rfl rfl
def toL (rf:List DC→List DC) {α:Type} (jX:α) (k_:Rows→α) (a:Rows) (ox:Int→Rows→α) (i:Int) (out:Rows):α:=
 bif decide (i<len a) then bif DZ (DZ (DZ true (idx i a)) (idx i out)) (inl (Int.toNat i) out) then ox (nR (i+1)) (List.set out (Int.toNat i) (bP (nth out (Int.toNat i)) 0 (rf (nth a (Int.toNat i))))) else jX else k_ out
def niP (rf:List DC→List DC) {α:Type} (jX:α) (k_:Rows→α) (N:Nat) (a:Rows) (m_:Nat):Int→Rows→α:=
 Nat.rec (motive:=fun _=>Int→Rows→α) (fun _ _=>jX) (fun _ ox=>toL rf jX k_ a ox) m_
def toT (z:Nat) (d:List DC) {α:Type} (jX:α) (k_:Rows→α) (l0:Int→Rows→α) (a:Rows):α:=
 bif DZ true (xZ z (len a) (len a)) then l0 0 (List.replicate (Int.toNat (len a)) d) else jX
def nir (z:Nat) (d:List DC) (rf:List DC→List DC) {α:Type} (jX:α) (k_:Rows→α) (N:Nat) (a:Rows):α:=toT z d jX k_ (niP rf jX k_ N a N) a
theorem nkA {α:Type} (z:Nat) (hz:z≤8388608) (d:List DC) (rf:List DC→List DC) (jX:α) (k_:Rows→α) (a:Rows) (hl:a.length≤9223372036854775807) (IZ:sm a=true) (hr:∀r∈a,bP d 0 (rf r)=r):∃N,nir z d rf jX k_ N a=k_ a:=by
 refine⟨a.length+1, ?_⟩
 unfold nir toT
 have e0:Int.toNat (len a)=a.length:=by simp [len]
 simp only[njY IZ hz,nk,cond_true,e0]
 refine njq a (niP rf jX k_ (a.length+1) a) k_ d (fun o r=>bP o 0 (rf r)) ?_ ?_ hr
 ·intro n i out h ho
  show toL rf jX k_ a (niP rf jX k_ (a.length+1) a n) (i:Int) out=_
  simp only[toL,pf h,oa h,njW ho h,tf (show i<out.length by omega),ov h hl,Int.toNat_natCast,nk,nn,cond_true]
 ·intro n out ho
  show toL rf jX k_ a (niP rf jX k_ (a.length+1) a n) (a.length:Int) out=_
  simp only[toL,nS,cond_false]
def eqL {σ:Type} (dec:List DC→σ) {α:Type} (jX:α) (k_:Bool→α) (a b:Rows) (ox:Int→α) (i:Int):α:=
 bif decide (i<len a) then bif DZ (DZ (DZ true (idx i a)) (idx i b)) (same (dec (nth a (Int.toNat i))) (dec (nth b (Int.toNat i)))) then bif !(om (dec (nth a (Int.toNat i))) (dec (nth b (Int.toNat i)))) then k_ false else ox (nR (i+1)) else jX else k_ true
def ncG {σ:Type} (dec:List DC→σ) {α:Type} (jX:α) (k_:Bool→α) (N:Nat) (a b:Rows) (m_:Nat):Int→α:=
 Nat.rec (motive:=fun _=>Int→α) (fun _=>jX) (fun _ ox=>eqL dec jX k_ a b ox) m_
def eqT {α:Type} (jX:α) (k_:Bool→α) (l0:Int→α) (a b:Rows):α:=bif (len a) != (len b) then k_ false else l0 0
def UZ {σ:Type} (dec:List DC→σ) {α:Type} (jX:α) (k_:Bool→α) (N:Nat) (a b:Rows):α:=eqT jX k_ (ncG dec jX k_ N a b N) a b
theorem nhX {α σ:Type} (dec:List DC→σ) (jX:α) (k_:Bool→α) (a b:Rows) (hl:a.length≤9223372036854775807) (aI:same a b=true):∃N,UZ dec jX k_ N a b=k_ (om a b):=by
 obtain rfl:=p8 aI
 refine⟨a.length+1, ?_⟩
 unfold UZ eqT
 simp only[bne_self_eq_false,cond_false]
 refine (qo a (ncG dec jX k_ (a.length+1) a a) (fun _ _ c=>c) (k_ true) ?_ ?_).trans (nev _ _ _)
 ·intro n i h
  show eqL dec jX k_ a a (ncG dec jX k_ (a.length+1) a a n) (i:Int)=_
  simp only[eqL,pf h,oa h,ov h hl,Int.toNat_natCast,nk,nn,cond_true,cond_false,oI,om,Bool.not_true]
 ·intro n
  show eqL dec jX k_ a a (ncG dec jX k_ (a.length+1) a a n) (a.length:Int)=_
  simp only[eqL,nS,cond_false]
def nfu {α:Type} (k_:Int→α) (a:Rows) (left:Int):α:=
 bif decide (nR (left - (len a))<0) then k_ (-1)
 else k_ (nR (left - (len a)))
theorem Pz {α:Type} (k_:Int→α) (a:Rows) (left:Int):nfu k_ a left=k_ (ui a left):=by
 exact JR rfl rfl
def xX {α:Type} (k_:Int→α) (a:ni) (left:Int):α:=
 bif decide (ui a.nr left<0) then k_ (-1)
 else k_ (ui a.nr left)
def qU (a:ni) (left:Int):Int:=xX id a left
theorem YS {α:Type} (k_:Int→α) (a:ni) (left:Int):xX k_ a left=k_ (qU a left):=by
 exact JR rfl rfl
def R4 {α:Type} (k_:Bool→α) (a b:oP):α:=
 bif a.niz != b.niz then k_ false
 else bif a.nhx != b.nhx then k_ false
 else bif a.neD != b.neD then k_ false
 else bif !(a.neG==b.neG) then k_ false
 else k_ true
theorem nbo {α:Type} (k_:Bool→α) (a b:oP) (aI:same a b=true):R4 k_ a b=k_ (om a b):=by
 obtain rfl:=p8 aI
 simp only[R4,oI,om,bne_self_eq_false,beq_self_eq_true,Bool.not_true,cond_false,cond_true,nk,nn]
def ngi:List DC→List DC:=fun r=>[.int (rI r 0)]
theorem ngX (k_:Rows→α) (a:Rows) (qn:GO (.sl [.i]) (.sl a)) (aI:sm a=true):∃N,nir 8 [.int 0] ngi jX k_ N a=k_ (qY a):=by
 obtain⟨hl,hw⟩:=oU qn
 exact nkA 8 (by omega) [.int 0] ngi jX k_ a hl aI (fun r hr=>(vV rfl).trans (by exact nj5 (hw r hr)))
def xt (k_:nz→α) (a:nz):α:=
 bif DZ true (sm a.Table) then
  k_ (⟨a.Key,qY a.Table⟩:nz)
 else jX
def sM (a:nz):Bool:=xt false (fun _=>true) a
theorem ndQ (k_:nz→α) (a:nz) (aI:sM a=true):xt jX k_ a=k_ (qY a):=by
 exact RM (fun _=>rfl) aI
def yK (k_:Bool→α) (a b:Rows) (ox:Int→α) (i:Int):α:=
 bif decide (i<len a) then
  bif DZ (DZ true (idx i a)) (idx i b) then
   bif (rI (nth a (Int.toNat i)) 0) != (rI (nth b (Int.toNat i)) 0) then k_ false
   else ox (nR (i+1))
  else jX
 else k_ true
def yJ (k_:Bool→α) (N:Nat) (a b:Rows) (m_:Nat):Int→α:=
 Nat.rec (motive:=fun _=>Int→α) (fun _=>jX) (fun _ ox=>yK jX k_ a b ox) m_
theorem R2 (k_:Bool→α) (N:Nat) (a b:Rows) (m_:Nat):yJ jX k_ N a b (m_+1)=yK jX k_ a b (yJ jX k_ N a b m_):=rfl
def Rz {α:Type} (jX:α) (k_:Bool→α) (l0:Int→α) (a b:Rows):α:=
 bif (len a) != (len b) then k_ false
 else l0 0
def XG (k_:Bool→α) (N:Nat) (a b:Rows):α:=Rz jX k_ (yJ jX k_ N a b N) a b
theorem ngL (k_:Bool→α) (a b:Rows) (qn:GO (.sl [.i]) (.sl a)) (aI:same a b=true):∃N,XG jX k_ N a b=k_ (om a b):=by
 obtain rfl:=p8 aI
 obtain⟨hl,_⟩:=oU qn
 refine⟨a.length+1, ?_⟩
 unfold XG Rz
 simp only[bne_self_eq_false,cond_false]
 refine (qo a (yJ jX k_ (a.length+1) a a) (fun _ _ c=>c) (k_ true) ?_ ?_).trans (nev _ _ _)
 ·intro n i h
  rw[R2]
  simp only[yK,pf h,oa h,ov h hl,Int.toNat_natCast,nk,nn,cond_true,cond_false,bne_self_eq_false,beq_self_eq_true,Bool.not_true,oI,om]
 ·intro n
  rw[R2]
  simp only[yK,nS,cond_false]
def XI (k_:Bool→α) (a b:nt):α:=
 bif a.oB != b.oB then k_ false
 else bif a.nK != b.nK then k_ false
 else bif a.Count != b.Count then k_ false
 else bif DZ true (same a.nY b.nY) then
   bif !(om a.nY b.nY) then k_ false
   else k_ true
  else jX
theorem ngM (k_:Bool→α) (a b:nt) (aI:same a b=true):XI jX k_ a b=k_ (om a b):=by
 obtain rfl:=p8 aI
 simp only[XI,oI,om,bne_self_eq_false,beq_self_eq_true,Bool.not_true,cond_false,cond_true,nk,nn]
theorem nfe (k_:Bool→α) (a b:Rows) (qn:GO (.sl [.i,.i,.i,.sl [.i]]) (.sl a)) (aI:same a b=true):∃N,UZ (fun r=>nt.nh r 0) jX k_ N a b=k_ (om a b):=by
 exact nhX (fun r=>nt.nh r 0) jX k_ a b (oU qn).1 aI
def vm (k_:Bool→α) (a b:Rows) (ox:Int→α) (i:Int):α:=
 bif decide (i<len a) then
  bif DZ (DZ true (idx i a)) (idx i b) then
   bif !((rS (nth a (Int.toNat i)) 0)==(rS (nth b (Int.toNat i)) 0)) then k_ false
   else ox (nR (i+1))
  else jX
 else k_ true
def vl (k_:Bool→α) (N:Nat) (a b:Rows) (m_:Nat):Int→α:=
 Nat.rec (motive:=fun _=>Int→α) (fun _=>jX) (fun _ ox=>vm jX k_ a b ox) m_
theorem N3 (k_:Bool→α) (N:Nat) (a b:Rows) (m_:Nat):vl jX k_ N a b (m_+1)=vm jX k_ a b (vl jX k_ N a b m_):=rfl
def zn {α:Type} (jX:α) (k_:Bool→α) (l0:Int→α) (a b:Rows):α:=
 bif (len a) != (len b) then k_ false
 else l0 0
def Sd (k_:Bool→α) (N:Nat) (a b:Rows):α:=zn jX k_ (vl jX k_ N a b N) a b
theorem nbx (k_:Bool→α) (a b:Rows) (qn:GO (.sl [.str]) (.sl a)) (aI:same a b=true):∃N,Sd jX k_ N a b=k_ (om a b):=by
 obtain rfl:=p8 aI
 obtain⟨hl,_⟩:=oU qn
 refine⟨a.length+1, ?_⟩
 unfold Sd zn
 simp only[bne_self_eq_false,cond_false]
 refine (qo a (vl jX k_ (a.length+1) a a) (fun _ _ c=>c) (k_ true) ?_ ?_).trans (nev _ _ _)
 ·intro n i h
  rw[N3]
  simp only[vm,pf h,oa h,ov h hl,Int.toNat_natCast,nk,nn,cond_true,cond_false,bne_self_eq_false,beq_self_eq_true,Bool.not_true,oI,om]
 ·intro n
  rw[N3]
  simp only[vm,nS,cond_false]
def TZ (k_:Bool→α) (a b:na):α:=
 bif DZ true (same a.nF b.nF) then
  bif !(om a.nF b.nF) then k_ false
  else k_ true
 else jX
theorem ndf (k_:Bool→α) (a b:na) (aI:same a b=true):TZ jX k_ a b=k_ (om a b):=by
 obtain rfl:=p8 aI
 simp only[TZ,oI,om,bne_self_eq_false,beq_self_eq_true,Bool.not_true,cond_false,cond_true,nk,nn]
def NN {α:Type} (k_:Int→α) (a:nz) (left:Int):α:=
 let z0:Int:=nR (left - (len a.Key))
 let z1:Int:=ui a.Table z0
 bif decide (z0<0) then k_ (-1)
 else bif decide (z1<0) then k_ (-1)
 else k_ z1
def tS (a:nz) (left:Int):Int:=NN id a left
theorem ndK {α:Type} (k_:Int→α) (a:nz) (left:Int):NN k_ a left=k_ (tS a left):=by
 exact JR rfl (JR rfl rfl)
def yP {α:Type} (k_:Int→α) (a:nj) (left:Int):α:=
 let z0:Int:=qU a.Table (ui a.nP left)
 let z1:Int:=tS a.nG z0
 bif decide (ui a.nP left<0) then k_ (-1)
 else bif decide (z0<0) then k_ (-1)
 else bif decide (z1<0) then k_ (-1)
 else k_ z1
def sj (a:nj) (left:Int):Int:=yP id a left
theorem naK {α:Type} (k_:Int→α) (a:nj) (left:Int):yP k_ a left=k_ (sj a left):=by
 exact JR rfl (JR rfl (JR rfl rfl))
def XK {α:Type} (k_:Bool→α) (a b:ny):α:=
 bif a.oB != b.oB then k_ false
 else bif a.nK != b.nK then k_ false
 else bif a.Head != b.Head then k_ false
 else bif a.pM != b.pM then k_ false
 else k_ true
theorem ngN {α:Type} (k_:Bool→α) (a b:ny) (aI:same a b=true):XK k_ a b=k_ (om a b):=by
 obtain rfl:=p8 aI
 simp only[XK,oI,om,bne_self_eq_false,beq_self_eq_true,Bool.not_true,cond_false,cond_true,nk,nn]
def w9 {α:Type} (k_:Bool→α) (a b:nv):α:=
 bif a.oB != b.oB then k_ false
 else bif a.nK != b.nK then k_ false
 else bif a.Count != b.Count then k_ false
 else k_ true
theorem Rv {α:Type} (k_:Bool→α) (a b:nv) (aI:same a b=true):w9 k_ a b=k_ (om a b):=by
 obtain rfl:=p8 aI
 simp only[w9,oI,om,bne_self_eq_false,beq_self_eq_true,Bool.not_true,cond_false,cond_true,nk,nn]
def R8 {α:Type} (k_:Bool→α) (a b:oe):α:=
 bif a.Kind != b.Kind then k_ false
 else bif a.oW != b.oW then k_ false
 else bif a.oV != b.oV then k_ false
 else bif a.Seq != b.Seq then k_ false
 else bif a.Ack != b.Ack then k_ false
 else bif a.Flags != b.Flags then k_ false
 else bif a.U4 != b.U4 then k_ false
 else bif !(a.Body==b.Body) then k_ false
 else k_ true
theorem nbs {α:Type} (k_:Bool→α) (a b:oe) (aI:same a b=true):R8 k_ a b=k_ (om a b):=by
 obtain rfl:=p8 aI
 simp only[R8,oI,om,bne_self_eq_false,beq_self_eq_true,Bool.not_true,cond_false,cond_true,nk,nn]
def T3 (k_:Bool→α) (a b:oJ):α:=
 bif a.X4 != b.X4 then k_ false
 else bif a.X5 != b.X5 then k_ false
 else bif a.Zp != b.Zp then k_ false
 else bif a.Tos != b.Tos then k_ false
 else bif a.Id != b.Id then k_ false
 else bif a.Ttl != b.Ttl then k_ false
 else bif a.qC != b.qC then k_ false
 else bif a.ru != b.ru then k_ false
 else bif DZ true (same a.Qi b.Qi) then
   bif !(om a.Qi b.Qi) then k_ false
   else k_ true
  else jX
theorem ndh (k_:Bool→α) (a b:oJ) (aI:same a b=true):T3 jX k_ a b=k_ (om a b):=by
 obtain rfl:=p8 aI
 simp only[T3,oI,om,bne_self_eq_false,beq_self_eq_true,Bool.not_true,cond_false,cond_true,nk,nn]
def VE (k_:Bool→α) (a b:pz):α:=
 bif DZ true (same a.oh b.oh) then
  bif !(om a.oh b.oh) then k_ false
  else bif a.nK != b.nK then k_ false
  else bif a.Count != b.Count then k_ false
  else k_ true
 else jX
theorem nfq (k_:Bool→α) (a b:pz) (aI:same a b=true):VE jX k_ a b=k_ (om a b):=by
 obtain rfl:=p8 aI
 simp only[VE,oI,om,bne_self_eq_false,beq_self_eq_true,Bool.not_true,cond_false,cond_true,nk,nn]
def R6 (k_:Bool→α) (a b:nW):α:=
 bif DZ true (same a.Ring b.Ring) then
  bif !(om a.Ring b.Ring) then k_ false
  else bif DZ true (same a.Device b.Device) then
    bif !(om a.Device b.Device) then k_ false
    else bif DZ true (same a.Driver b.Driver) then
      bif !(om a.Driver b.Driver) then k_ false
      else bif DZ true (same a.rq b.rq) then
        bif !(om a.rq b.rq) then k_ false
        else bif !(a.Zo==b.Zo) then k_ false
        else bif a.Zm != b.Zm then k_ false
        else k_ true
       else jX
     else jX
   else jX
 else jX
theorem nbq (k_:Bool→α) (a b:nW) (aI:same a b=true):R6 jX k_ a b=k_ (om a b):=by
 obtain rfl:=p8 aI
 simp only[R6,oI,om,bne_self_eq_false,beq_self_eq_true,Bool.not_true,cond_false,cond_true,nk,nn]
def XO (k_:Bool→α) (a b:qX):α:=
 bif a.Nx != b.Nx then k_ false
 else bif a.nr != b.nr then k_ false
 else bif DZ true (same a.Zl b.Zl) then
   bif !(om a.Zl b.Zl) then k_ false
   else k_ true
  else jX
theorem ngQ (k_:Bool→α) (a b:qX) (aI:same a b=true):XO jX k_ a b=k_ (om a b):=by
 obtain rfl:=p8 aI
 simp only[XO,oI,om,bne_self_eq_false,beq_self_eq_true,Bool.not_true,cond_false,cond_true,nk,nn]
theorem nfk (k_:Bool→α) (a b:Rows) (qn:GO (.sl [.i,.i,.sl [.i]]) (.sl a)) (aI:same a b=true):∃N,UZ (fun r=>qX.nh r 0) jX k_ N a b=k_ (om a b):=by
 exact nhX (fun r=>qX.nh r 0) jX k_ a b (oU qn).1 aI
def Sg (k_:Bool→α) (a b:nH):α:=
 bif DZ true (same a.Ring b.Ring) then
  bif !(om a.Ring b.Ring) then k_ false
  else bif DZ true (same a.oq b.oq) then
    bif !(om a.oq b.oq) then k_ false
    else bif DZ true (same a.oS b.oS) then
      bif !(om a.oS b.oS) then k_ false
      else bif a.Next != b.Next then k_ false
      else k_ true
     else jX
   else jX
 else jX
theorem nby (k_:Bool→α) (a b:nH) (aI:same a b=true):Sg jX k_ a b=k_ (om a b):=by
 obtain rfl:=p8 aI
 simp only[Sg,oI,om,bne_self_eq_false,beq_self_eq_true,Bool.not_true,cond_false,cond_true,nk,nn]
def ngW {α:Type} (k_:nD→α) (a:nD):α:=
 k_ a
theorem ngU {α:Type} (k_:nD→α) (a:nD):ngW k_ a=k_ (qY a):=by
 rfl
def ng3 {α:Type} (k_:py→α) (a:py):α:=
 k_ (⟨a.State,qY a.Qf,a.Queue⟩:py)
theorem ng1 {α:Type} (k_:py→α) (a:py):ng3 k_ a=k_ (qY a):=by
 rfl
def ncr:List DC→List DC:=fun r=>py.enc (qY (py.nh r 0))
theorem nfz (k_:Rows→α) (a:Rows) (qn:GO (.sl [.i,.i,.i,.i,.i,.i,.i]) (.sl a)) (aI:sm a=true):∃N,nir 56 [.int 0,.int 0,.int 0,.int 0,.int 0,.int 0,.int 0] ncr jX k_ N a=k_ (qY a):=by
 obtain⟨hl,hw⟩:=oU qn
 exact nkA 56 (by omega) [.int 0,.int 0,.int 0,.int 0,.int 0,.int 0,.int 0] ncr jX k_ a hl aI (fun r hr=>(vV rfl).trans (by exact py.eta (hw r hr)))
def uA (k_:ni→α) (a:ni):α:=
 bif DZ true (sm a.nr) then
  k_ (⟨qY a.nr⟩:ni)
 else jX
def rp (a:ni):Bool:=uA false (fun _=>true) a
theorem YV (k_:ni→α) (a:ni) (aI:rp a=true):uA jX k_ a=k_ (qY a):=by
 exact RM (fun _=>rfl) aI
def NM {α:Type} (k_:Int→α) (a:nm) (left:Int):α:=
 bif decide (ui a.nZ left<0) then k_ (-1)
 else k_ (ui a.nZ left)
def rN (a:nm) (left:Int):Int:=NM id a left
theorem ndI {α:Type} (k_:Int→α) (a:nm) (left:Int):NM k_ a left=k_ (rN a left):=by
 exact JR rfl rfl
def XM {α:Type} (k_:Bool→α) (a b:oy):α:=
 bif a.Priority != b.Priority then k_ false
 else bif a.Kind != b.Kind then k_ false
 else bif a.qC != b.qC then k_ false
 else bif a.neu != b.neu then k_ false
 else bif a.RJ != b.RJ then k_ false
 else bif a.U3 != b.U3 then k_ false
 else bif a.Zp != b.Zp then k_ false
 else bif a.Action != b.Action then k_ false
 else bif a.Queue != b.Queue then k_ false
 else k_ true
theorem ngO {α:Type} (k_:Bool→α) (a b:oy) (aI:same a b=true):XM k_ a b=k_ (om a b):=by
 obtain rfl:=p8 aI
 simp only[XM,oI,om,bne_self_eq_false,beq_self_eq_true,Bool.not_true,cond_false,cond_true,nk,nn]
def XB {α:Type} (k_:Bool→α) (a b:nD):α:=
 bif a.Kind != b.Kind then k_ false
 else bif a.qC != b.qC then k_ false
 else bif a.ru != b.ru then k_ false
 else bif a.oW != b.oW then k_ false
 else bif a.oV != b.oV then k_ false
 else k_ true
theorem ngI {α:Type} (k_:Bool→α) (a b:nD) (aI:same a b=true):XB k_ a b=k_ (om a b):=by
 obtain rfl:=p8 aI
 simp only[XB,oI,om,bne_self_eq_false,beq_self_eq_true,Bool.not_true,cond_false,cond_true,nk,nn]
def XQ (k_:Bool→α) (a b:py):α:=
 bif a.State != b.State then k_ false
 else bif DZ true (same a.Qf b.Qf) then
   bif !(om a.Qf b.Qf) then k_ false
   else bif a.Queue != b.Queue then k_ false
   else k_ true
  else jX
theorem ngS (k_:Bool→α) (a b:py) (aI:same a b=true):XQ jX k_ a b=k_ (om a b):=by
 obtain rfl:=p8 aI
 simp only[XQ,oI,om,bne_self_eq_false,beq_self_eq_true,Bool.not_true,cond_false,cond_true,nk,nn]
theorem nfn (k_:Bool→α) (a b:Rows) (qn:GO (.sl [.i,.i,.i,.i,.i,.i,.i]) (.sl a)) (aI:same a b=true):∃N,UZ (fun r=>py.nh r 0) jX k_ N a b=k_ (om a b):=by
 exact nhX (fun r=>py.nh r 0) jX k_ a b (oU qn).1 aI
def O1 (k_:Bool→α) (a b:ni):α:=
 bif DZ true (same a.nr b.nr) then
  bif !(om a.nr b.nr) then k_ false
  else k_ true
 else jX
theorem Yu (k_:Bool→α) (a b:ni) (aI:same a b=true):O1 jX k_ a b=k_ (om a b):=by
 obtain rfl:=p8 aI
 simp only[O1,oI,om,bne_self_eq_false,beq_self_eq_true,Bool.not_true,cond_false,cond_true,nk,nn]
def T5 (k_:Bool→α) (a b:nz):α:=
 bif !(a.Key==b.Key) then k_ false
 else bif DZ true (same a.Table b.Table) then
   bif !(om a.Table b.Table) then k_ false
   else k_ true
  else jX
theorem ndn (k_:Bool→α) (a b:nz) (aI:same a b=true):T5 jX k_ a b=k_ (om a b):=by
 obtain rfl:=p8 aI
 simp only[T5,oI,om,bne_self_eq_false,beq_self_eq_true,Bool.not_true,cond_false,cond_true,nk,nn]
def T7 (k_:Bool→α) (a b:oR):α:=
 bif DZ true (same a.Qf b.Qf) then
  bif !(om a.Qf b.Qf) then k_ false
  else bif a.Next != b.Next then k_ false
  else bif !(a.Data==b.Data) then k_ false
  else bif !(a.nkh==b.nkh) then k_ false
  else k_ true
 else jX
theorem ndp (k_:Bool→α) (a b:oR) (aI:same a b=true):T7 jX k_ a b=k_ (om a b):=by
 obtain rfl:=p8 aI
 simp only[T7,oI,om,bne_self_eq_false,beq_self_eq_true,Bool.not_true,cond_false,cond_true,nk,nn]
theorem Z8 (k_:Bool→α) (a b:Rows) (qn:GO (.sl [.i,.i,.i,.bool]) (.sl a)) (aI:same a b=true):∃N,UZ (fun r=>oP.nh r 0) jX k_ N a b=k_ (om a b):=by
 exact nhX (fun r=>oP.nh r 0) jX k_ a b (oU qn).1 aI
theorem naa (k_:Bool→α) (a b:Rows) (qn:GO (.sl [.i,.i,.i,.i,.i,.i,.i,.i,.i,.i,.i,.i,.i,.i,.i,.i,.i,.i,.i,.i,.i,.i,.i,.i,.i,.str,.i,.i,.bool,.i]) (.sl a)) (aI:same a b=true):∃N,UZ (fun r=>nW.nh r 0) jX k_ N a b=k_ (om a b):=by
 exact nhX (fun r=>nW.nh r 0) jX k_ a b (oU qn).1 aI
def T9 {α:Type} (k_:Bool→α) (a b:nO):α:=
 bif a.pn != b.pn then k_ false
 else bif a.qc != b.qc then k_ false
 else bif a.Count != b.Count then k_ false
 else bif a.Time != b.Time then k_ false
 else bif !(a.rH==b.rH) then k_ false
 else bif !(a.rD==b.rD) then k_ false
 else k_ true
theorem ndr {α:Type} (k_:Bool→α) (a b:nO) (aI:same a b=true):T9 k_ a b=k_ (om a b):=by
 obtain rfl:=p8 aI
 simp only[T9,oI,om,bne_self_eq_false,beq_self_eq_true,Bool.not_true,cond_false,cond_true,nk,nn]
theorem nbA (k_:Bool→α) (a b:Rows) (qn:GO (.sl [.i,.i,.i,.i,.bool,.bool]) (.sl a)) (aI:same a b=true):∃N,UZ (fun r=>nO.nh r 0) jX k_ N a b=k_ (om a b):=by
 exact nhX (fun r=>nO.nh r 0) jX k_ a b (oU qn).1 aI
def xq (k_:Bool→α) (a b:Rows) (ox:Int→α) (i:Int):α:=
 bif decide (i<len a) then
  bif DZ (DZ true (idx i a)) (idx i b) then
   bif !((rB (nth a (Int.toNat i)) 0)==(rB (nth b (Int.toNat i)) 0)) then k_ false
   else ox (nR (i+1))
  else jX
 else k_ true
def xp (k_:Bool→α) (N:Nat) (a b:Rows) (m_:Nat):Int→α:=
 Nat.rec (motive:=fun _=>Int→α) (fun _=>jX) (fun _ ox=>xq jX k_ a b ox) m_
theorem QC (k_:Bool→α) (N:Nat) (a b:Rows) (m_:Nat):xp jX k_ N a b (m_+1)=xq jX k_ a b (xp jX k_ N a b m_):=rfl
def OZ {α:Type} (jX:α) (k_:Bool→α) (l0:Int→α) (a b:Rows):α:=
 bif (len a) != (len b) then k_ false
 else l0 0
def Vq (k_:Bool→α) (N:Nat) (a b:Rows):α:=OZ jX k_ (xp jX k_ N a b N) a b
theorem nfb (k_:Bool→α) (a b:Rows) (qn:GO (.sl [.bool]) (.sl a)) (aI:same a b=true):∃N,Vq jX k_ N a b=k_ (om a b):=by
 obtain rfl:=p8 aI
 obtain⟨hl,_⟩:=oU qn
 refine⟨a.length+1, ?_⟩
 unfold Vq OZ
 simp only[bne_self_eq_false,cond_false]
 refine (qo a (xp jX k_ (a.length+1) a a) (fun _ _ c=>c) (k_ true) ?_ ?_).trans (nev _ _ _)
 ·intro n i h
  rw[QC]
  simp only[xq,pf h,oa h,ov h hl,Int.toNat_natCast,nk,nn,cond_true,cond_false,bne_self_eq_false,beq_self_eq_true,Bool.not_true,oI,om]
 ·intro n
  rw[QC]
  simp only[xq,nS,cond_false]
def TX (k_:Bool→α) (a b:nm):α:=
 bif a.Qe != b.Qe then k_ false
 else bif !(a.nN==b.nN) then k_ false
 else bif DZ true (same a.nZ b.nZ) then
   bif !(om a.nZ b.nZ) then k_ false
   else k_ true
  else jX
theorem nde (k_:Bool→α) (a b:nm) (aI:same a b=true):TX jX k_ a b=k_ (om a b):=by
 obtain rfl:=p8 aI
 simp only[TX,oI,om,bne_self_eq_false,beq_self_eq_true,Bool.not_true,cond_false,cond_true,nk,nn]
theorem nfh (k_:Bool→α) (a b:Rows) (qn:GO (.sl [.i,.i,.i,.i,.i,.i,.i,.i,.i]) (.sl a)) (aI:same a b=true):∃N,UZ (fun r=>oy.nh r 0) jX k_ N a b=k_ (om a b):=by
 exact nhX (fun r=>oy.nh r 0) jX k_ a b (oU qn).1 aI
def QM (k_:Bool→α) (a b:nj):α:=
 bif DZ true (same a.nP b.nP) then
  bif !(om a.nP b.nP) then k_ false
  else bif DZ true (same a.Table b.Table) then
    bif !(om a.Table b.Table) then k_ false
    else bif DZ true (same a.nG b.nG) then
      bif !(om a.nG b.nG) then k_ false
      else k_ true
     else jX
   else jX
 else jX
theorem nad (k_:Bool→α) (a b:nj) (aI:same a b=true):QM jX k_ a b=k_ (om a b):=by
 obtain rfl:=p8 aI
 simp only[QM,oI,om,bne_self_eq_false,beq_self_eq_true,Bool.not_true,cond_false,cond_true,nk,nn]
theorem nbu (k_:Bool→α) (a b:Rows) (qn:GO (.sl [.i,.i,.i,.i,.i,.i,.str,.bool]) (.sl a)) (aI:same a b=true):∃N,UZ (fun r=>oR.nh r 0) jX k_ N a b=k_ (om a b):=by
 exact nhX (fun r=>oR.nh r 0) jX k_ a b (oU qn).1 aI
def QE {α:Type} (k_:Bool→α) (a b:og):α:=
 bif a.Frames != b.Frames then k_ false
 else bif a.Bad != b.Bad then k_ false
 else bif a.uH != b.uH then k_ false
 else bif a.xf != b.xf then k_ false
 else bif a.Tk != b.Tk then k_ false
 else k_ true
theorem Z6 {α:Type} (k_:Bool→α) (a b:og) (aI:same a b=true):QE k_ a b=k_ (om a b):=by
 obtain rfl:=p8 aI
 simp only[QE,oI,om,bne_self_eq_false,beq_self_eq_true,Bool.not_true,cond_false,cond_true,nk,nn]
def XD (k_:Bool→α) (a b:nB):α:=
 bif DZ true (same a.oD b.oD) then
  bif !(om a.oD b.oD) then k_ false
  else bif DZ true (same a.Maps b.Maps) then
    bif !(om a.Maps b.Maps) then k_ false
    else bif DZ true (same a.Tx b.Tx) then
      bif !(om a.Tx b.Tx) then k_ false
      else bif DZ true (same a.Rx b.Rx) then
        bif !(om a.Rx b.Rx) then k_ false
        else bif DZ true (same a.ph b.ph) then
          bif !(om a.ph b.ph) then k_ false
          else bif DZ true (same a.oO b.oO) then
            bif !(om a.oO b.oO) then k_ false
            else bif DZ true (same a.oN b.oN) then
              bif !(om a.oN b.oN) then k_ false
              else bif DZ true (same a.Filter b.Filter) then
                bif !(om a.Filter b.Filter) then k_ false
                else bif DZ true (same a.nJ b.nJ) then
                  bif !(om a.nJ b.nJ) then k_ false
                  else bif DZ true (same a.qD b.qD) then
                    bif !(om a.qD b.qD) then k_ false
                    else bif !(a.sN==b.sN) then k_ false
                    else bif DZ true (same a.zZ b.zZ) then
                      bif !(om a.zZ b.zZ) then k_ false
                      else bif DZ true (same a.pb b.pb) then
                        bif !(om a.pb b.pb) then k_ false
                        else bif DZ true (same a.pA b.pA) then
                          bif !(om a.pA b.pA) then k_ false
                          else bif DZ true (same a.Counters b.Counters) then
                            bif !(om a.Counters b.Counters) then k_ false
                            else k_ true
                           else jX
                         else jX
                       else jX
                     else jX
                   else jX
                 else jX
               else jX
             else jX
           else jX
         else jX
       else jX
     else jX
   else jX
 else jX
theorem ngJ (k_:Bool→α) (a b:nB) (aI:same a b=true):XD jX k_ a b=k_ (om a b):=by
 obtain rfl:=p8 aI
 simp only[XD,oI,om,bne_self_eq_false,beq_self_eq_true,Bool.not_true,cond_false,cond_true,nk,nn]
def ng0 {α:Type} (k_:oy→α) (a:oy):α:=
 k_ a
theorem ngY {α:Type} (k_:oy→α) (a:oy):ng0 k_ a=k_ (qY a):=by
 rfl
def ncq:List DC→List DC:=fun r=>oy.enc (qY (oy.nh r 0))
theorem nfw (k_:Rows→α) (a:Rows) (qn:GO (.sl [.i,.i,.i,.i,.i,.i,.i,.i,.i]) (.sl a)) (aI:sm a=true):∃N,nir 72 [.int 0,.int 0,.int 0,.int 0,.int 0,.int 0,.int 0,.int 0,.int 0] ncq jX k_ N a=k_ (qY a):=by
 obtain⟨hl,hw⟩:=oU qn
 exact nkA 72 (by omega) [.int 0,.int 0,.int 0,.int 0,.int 0,.int 0,.int 0,.int 0,.int 0] ncq jX k_ a hl aI (fun r hr=>(vV rfl).trans (by exact oy.eta (hw r hr)))
def vA (k_:nj→α) (a:nj):α:=
 bif DZ true (sm a.nP) then
  bif DZ true (rp a.Table) then
   bif DZ true (sM a.nG) then
    k_ (⟨qY a.nP,qY a.Table,qY a.nG⟩:nj)
   else jX
  else jX
 else jX
def pD (a:nj):Bool:=vA false (fun _=>true) a
theorem naM (k_:nj→α) (a:nj) (aI:pD a=true):vA jX k_ a=k_ (qY a):=by
 exact RM (RM (RM (fun _=>rfl))) aI
def xr (k_:nm→α) (a:nm):α:=
 bif DZ true (sm a.nZ) then
  k_ (⟨a.Qe,a.nN,qY a.nZ⟩:nm)
 else jX
def qs (a:nm):Bool:=xr false (fun _=>true) a
theorem ndM (k_:nm→α) (a:nm) (aI:qs a=true):xr jX k_ a=k_ (qY a):=by
 exact RM (fun _=>rfl) aI
theorem W9 {a:ni} {left:Int} (hwt:jV ni.ct a.enc) (h1:0≤left) (h2:left≤1048576) (h0:0≤qU a left):qU a left≤1048576∧rp a=true:=by
 simp only[qU,xX,id] at h0 ⊢
 by_cases c0:ui a.nr left<0
 ·simp only[c0,decide_true,cond_true] at h0;omega
 simp only[c0,decide_false,cond_false] at h0 ⊢
 have k0:=WH h1 h2 (oU (ni.Qc hwt)).1 (Int.not_lt.1 c0)
 exact⟨k0.1,by simp only[rp,uA,k0.2,nk,nn,cond_true]⟩
theorem nb5 {a:nz} {left:Int} (hwt:jV nz.ct a.enc) (h1:0≤left) (h2:left≤1048576) (h0:0≤tS a left):tS a left≤1048576∧sM a=true:=by
 simp only[tS,NN,id] at h0 ⊢
 by_cases c0:nR (left - (len a.Key))<0
 ·simp only[c0,decide_true,cond_true] at h0;omega
 simp only[c0,decide_false,cond_false] at h0 ⊢
 have k0:=nkz (niS (nz.nkB hwt)) h1 h2 (Int.not_lt.1 c0)
 by_cases c1:ui a.Table (nR (left - (len a.Key)))<0
 ·simp only[c1,decide_true,cond_true] at h0;omega
 simp only[c1,decide_false,cond_false] at h0 ⊢
 have k1:=WH (Int.not_lt.1 c0) k0.1 (oU (nz.Qd hwt)).1 (Int.not_lt.1 c1)
 exact⟨k1.1,by simp only[sM,xt,k0.2,k1.2,nk,nn,cond_true]⟩
theorem YU {a:nj} {left:Int} (hwt:jV nj.ct a.enc) (h1:0≤left) (h2:left≤1048576) (h0:0≤sj a left):sj a left≤1048576∧pD a=true:=by
 simp only[sj,yP,id] at h0 ⊢
 by_cases c0:ui a.nP left<0
 ·simp only[c0,decide_true,cond_true] at h0;omega
 simp only[c0,decide_false,cond_false] at h0 ⊢
 have k0:=WH h1 h2 (oU (nj.ngm hwt)).1 (Int.not_lt.1 c0)
 by_cases c1:qU a.Table (ui a.nP left)<0
 ·simp only[c1,decide_true,cond_true] at h0;omega
 simp only[c1,decide_false,cond_false] at h0 ⊢
 have k1:=W9 (nj.Qd hwt) (Int.not_lt.1 c0) k0.1 (Int.not_lt.1 c1)
 by_cases c2:tS a.nG (qU a.Table (ui a.nP left))<0
 ·simp only[c2,decide_true,cond_true] at h0;omega
 simp only[c2,decide_false,cond_false] at h0 ⊢
 have k2:=nb5 (nj.njk hwt) (Int.not_lt.1 c1) k1.1 (Int.not_lt.1 c2)
 exact⟨k2.1,by simp only[pD,vA,k0.2,k1.2,k2.2,nk,nn,cond_true]⟩
theorem nb4 {a:nm} {left:Int} (hwt:jV nm.ct a.enc) (h1:0≤left) (h2:left≤1048576) (h0:0≤rN a left):rN a left≤1048576∧qs a=true:=by
 simp only[rN,NM,id] at h0 ⊢
 by_cases c0:ui a.nZ left<0
 ·simp only[c0,decide_true,cond_true] at h0;omega
 simp only[c0,decide_false,cond_false] at h0 ⊢
 have k0:=WH h1 h2 (oU (nm.ngn hwt)).1 (Int.not_lt.1 c0)
 exact⟨k0.1,by simp only[qs,xr,k0.2,nk,nn,cond_true]⟩
def wx (k_:Int→Rows→α) (ox:Int→Int→Rows→α) (qu i:Int) (wO:Rows):α:=
 bif decide (i<len wO) then
  bif DZ (DZ true (idx i wO)) (inl (Int.toNat i) wO) then
   ox (nR (qu+1)) (nR (i+1)) (List.set wO (Int.toNat i) (bP (nth wO (Int.toNat i)) 0 [.int qu]))
  else jX
 else k_ qu wO
def wv (k_:Int→Rows→α) (N m_:Nat):Int→Int→Rows→α:=
 Nat.rec (motive:=fun _=>Int→Int→Rows→α) (fun _ _ _=>jX) (fun _ ox=>wx jX k_ ox) m_
theorem Pk (k_:Int→Rows→α) (N m_:Nat):wv jX k_ N (m_+1)=wx jX k_ (wv jX k_ N m_):=rfl
def NK {α:Type} (jX:α) (k_:Int→Rows→α) (l0:Int→Int→Rows→α) (a:Rows) (k:Int):α:=
 l0 k 0 a
def Uh (k_:Int→Rows→α) (N:Nat) (a:Rows) (k:Int):α:=NK jX k_ (wv jX k_ N N) a k
def pF (k:Int):List DC:=[.int k]
def p7 (a:Rows) (k:Int):Int×Rows:=(k+1*a.length,sn pF 1 a.length k)
theorem ndC (k_:Int→Rows→α) (a:Rows) (k:Int) (qn:GO (.sl [.i]) (.sl a)) (aI:wY 1 a k=true):∃N,Uh jX k_ N a k=k_ (p7 a k).1 (p7 a k).2:=by
 obtain⟨hl,hw⟩:=oU qn
 obtain⟨h1,h2,h3⟩:=PD aI
 refine⟨a.length+1, ?_⟩
 unfold Uh NK p7
 refine WB a k 1 pF (wv jX k_ (a.length+1)) k_ ?_ ?_
 ·intro n i b h hb hn
  rw[Pk]
  have w1:nR (k+1*(i:Int)+1)=k+1*(i:Int)+1:=nT (by omega) (by omega)
  have hs:bP (nth a i) 0 (pF (k+1*(i:Int)))=pF (k+1*(i:Int)):=vV (by rw[xF (hw (nth a i) (xu h))];rfl)
  simp only[wx,pf (show i<b.length by omega),oa (show i<b.length by omega),tf (show i<b.length by omega),ov h hl,Int.toNat_natCast,nk,nn,cond_true,hn,w1]
  rw[←hs];rfl
 ·intro n b hb
  rw[Pk]
  simp only[wx,←hb,nS,cond_false]
def wu (k_:Int→α) (a:Rows) (ox:Int→Int→α) (qu i:Int):α:=
 bif decide (i<len a) then
  bif DZ true (idx i a) then
   bif (rI (nth a (Int.toNat i)) 0) != qu then k_ (-1)
   else ox (nR (qu+1)) (nR (i+1))
  else jX
 else k_ qu
def wq (k_:Int→α) (N:Nat) (a:Rows) (m_:Nat):Int→Int→α:=
 Nat.rec (motive:=fun _=>Int→Int→α) (fun _ _=>jX) (fun _ ox=>wu jX k_ a ox) m_
theorem O6 (k_:Int→α) (N:Nat) (a:Rows) (m_:Nat):wq jX k_ N a (m_+1)=wu jX k_ a (wq jX k_ N a m_):=rfl
def NJ {α:Type} (jX:α) (k_:Int→α) (l0:Int→Int→α) (a:Rows) (k:Int):α:=
 l0 k 0
def Uc (k_:Int→α) (N:Nat) (a:Rows) (k:Int):α:=NJ jX k_ (wq jX k_ N a N) a k
def pG (a:Rows) (k:Int):Int:=k+1*a.length
theorem ndv (k_:Int→α) (a:Rows) (k:Int) (qn:GO (.sl [.i]) (.sl a)) (aI:y7 pF 1 a k=true):∃N,Uc jX k_ N a k=k_ (pG a k):=by
 obtain⟨hl,hw⟩:=oU qn
 obtain⟨h0,h1,h2,h3⟩:=nhB aI
 refine⟨a.length+1, ?_⟩
 unfold Uc NJ pG
 refine Wy a k 1 pF (wq jX k_ (a.length+1) a) k_ h0 ?_ ?_
 ·intro n i h hn
  rw[O6]
  have w1:nR (k+1*(i:Int)+1)=k+1*(i:Int)+1:=nT (by omega) (by omega)
  simp only[wu,pf h,oa h,ov h hl,Int.toNat_natCast,nk,nn,cond_true,hn,w1,njH,bne_self_eq_false,pF,cond_false]
 ·intro n
  rw[O6]
  simp only[wu,nS,cond_false]
def vv (k_:Int→Rows→α) (ox:Int→Int→Rows→α) (qu i:Int) (wO:Rows):α:=
 bif decide (i<len wO) then
  bif DZ (DZ true (idx i wO)) (inl (Int.toNat i) wO) then
   ox (nR (qu+1)) (nR (i+1)) (List.set wO (Int.toNat i) (bP (nth wO (Int.toNat i)) 0 [.bool ((Int.tmod qu 3)==0)]))
  else jX
 else k_ qu wO
def vu (k_:Int→Rows→α) (N m_:Nat):Int→Int→Rows→α:=
 Nat.rec (motive:=fun _=>Int→Int→Rows→α) (fun _ _ _=>jX) (fun _ ox=>vv jX k_ ox) m_
theorem Oc (k_:Int→Rows→α) (N m_:Nat):vu jX k_ N (m_+1)=vv jX k_ (vu jX k_ N m_):=rfl
def zz {α:Type} (jX:α) (k_:Int→Rows→α) (l0:Int→Int→Rows→α) (a:Rows) (k:Int):α:=
 l0 k 0 a
def SC (k_:Int→Rows→α) (N:Nat) (a:Rows) (k:Int):α:=zz jX k_ (vu jX k_ N N) a k
def yi (k:Int):List DC:=[.bool (Int.tmod k 3==0)]
def zG (a:Rows) (k:Int):Int×Rows:=(k+1*a.length,sn yi 1 a.length k)
theorem nbQ (k_:Int→Rows→α) (a:Rows) (k:Int) (qn:GO (.sl [.bool]) (.sl a)) (aI:wY 1 a k=true):∃N,SC jX k_ N a k=k_ (zG a k).1 (zG a k).2:=by
 obtain⟨hl,hw⟩:=oU qn
 obtain⟨h1,h2,h3⟩:=PD aI
 refine⟨a.length+1, ?_⟩
 unfold SC zz zG
 refine WB a k 1 yi (vu jX k_ (a.length+1)) k_ ?_ ?_
 ·intro n i b h hb hn
  rw[Oc]
  have w1:nR (k+1*(i:Int)+1)=k+1*(i:Int)+1:=nT (by omega) (by omega)
  have hs:bP (nth a i) 0 (yi (k+1*(i:Int)))=yi (k+1*(i:Int)):=vV (by rw[xF (hw (nth a i) (xu h))];rfl)
  simp only[vv,pf (show i<b.length by omega),oa (show i<b.length by omega),tf (show i<b.length by omega),ov h hl,Int.toNat_natCast,nk,nn,cond_true,hn,w1]
  rw[←hs];rfl
 ·intro n b hb
  rw[Oc]
  simp only[vv,←hb,nS,cond_false]
def vo (k_:Int→α) (a:Rows) (ox:Int→Int→α) (qu i:Int):α:=
 bif decide (i<len a) then
  bif DZ true (idx i a) then
   bif !((rB (nth a (Int.toNat i)) 0)==((Int.tmod qu 3)==0)) then k_ (-1)
   else ox (nR (qu+1)) (nR (i+1))
  else jX
 else k_ qu
def vn (k_:Int→α) (N:Nat) (a:Rows) (m_:Nat):Int→Int→α:=
 Nat.rec (motive:=fun _=>Int→Int→α) (fun _ _=>jX) (fun _ ox=>vo jX k_ a ox) m_
theorem N4 (k_:Int→α) (N:Nat) (a:Rows) (m_:Nat):vn jX k_ N a (m_+1)=vo jX k_ a (vn jX k_ N a m_):=rfl
def zq {α:Type} (jX:α) (k_:Int→α) (l0:Int→Int→α) (a:Rows) (k:Int):α:=
 l0 k 0
def Sm (k_:Int→α) (N:Nat) (a:Rows) (k:Int):α:=zq jX k_ (vn jX k_ N a N) a k
def Oq (a:Rows) (k:Int):Int:=k+1*a.length
theorem nbD (k_:Int→α) (a:Rows) (k:Int) (qn:GO (.sl [.bool]) (.sl a)) (aI:y7 yi 1 a k=true):∃N,Sm jX k_ N a k=k_ (Oq a k):=by
 obtain⟨hl,hw⟩:=oU qn
 obtain⟨h0,h1,h2,h3⟩:=nhB aI
 refine⟨a.length+1, ?_⟩
 unfold Sm zq Oq
 refine Wy a k 1 yi (vn jX k_ (a.length+1) a) k_ h0 ?_ ?_
 ·intro n i h hn
  rw[N4]
  have w1:nR (k+1*(i:Int)+1)=k+1*(i:Int)+1:=nT (by omega) (by omega)
  simp only[vo,pf h,oa h,ov h hl,Int.toNat_natCast,nk,nn,cond_true,hn,w1,nky,beq_self_eq_true,Bool.not_true,yi,cond_false]
 ·intro n
  rw[N4]
  simp only[vo,nS,cond_false]
def uf (k_:Bytes→α) (ox:Int→Bytes→α) (qu:Int) (su:Bytes):α:=
 bif decide (0<qu) then
  bif DZ true (wZ (toStr ([[.int (IntKind.wrap .u8 (nR (48+(Int.tmod qu 10))))]])) su) then
   ox (nR (Int.tdiv qu 10)) ((toStr ([[.int (IntKind.wrap .u8 (nR (48+(Int.tmod qu 10))))]]))++su)
  else jX
 else bif DZ true (wZ [109] su) then
   k_ ([109]++su)
  else jX
def wy (k_:Bytes→α) (N m_:Nat):Int→Bytes→α:=
 Nat.rec (motive:=fun _=>Int→Bytes→α) (fun _ _=>jX) (fun _ ox=>uf jX k_ ox) m_
theorem Pu (k_:Bytes→α) (N m_:Nat):wy jX k_ N (m_+1)=uf jX k_ (wy jX k_ N m_):=rfl
def NL {α:Type} (jX:α) (k_:Bytes→α) (l0:Int→Bytes→α) (k:Int):α:=
 bif decide (k≤0) then k_ [109,48]
 else l0 k []
def Ul (k_:Bytes→α) (N:Nat) (k:Int):α:=NL jX k_ (wy jX k_ N N) k
def mtD (k:Int):Bytes:=toStr ([[.int (IntKind.wrap .u8 (nR (48+(Int.tmod k 10))))]])
def mtl:Nat→Int→Bytes→Bytes
 | 0,_,o=>o
 | n+1,k,o=>bif decide (0<k) then mtl n (nR (Int.tdiv k 10)) (mtD k++o) else o
def Nm (k:Int):Bytes:=bif decide (k≤0) then [109,48] else [109]++mtl 25 k []
theorem ndH (k_:Bytes→α) (k:Int) (h_k:GO .i (.int k)):∃N,Ul jX k_ N k=k_ (Nm k):=by
 have h63:=vW h_k
 refine⟨26, ?_⟩
 have key:∀(n:Nat) (k:Int) (o:Bytes),0≤k→k≤9223372036854775807→k<10 ^ n→o.length+n≤100→
   wy jX k_ 26 (n+1) k o=k_ ([109]++mtl n k o):=by
  intro n
  induction n with
  | zero=>
   intro k o h0 h1 h2 h3
   have:k=0:=by simp only[Int.pow_zero] at h2;omega
   subst this
   rw[Pu]
   have c1:wZ [109] o=true:=by simp only[wZ,List.length_cons,List.length_nil,decide_eq_true_eq];omega
   simp only[uf,c1,nk,cond_true,mtl]
   rfl
  | succ n ih=>
   intro k o h0 h1 h2 h3
   rw[Pu]
   have c1:wZ [109] o=true:=by simp only[wZ,List.length_cons,List.length_nil,decide_eq_true_eq];omega
   by_cases hk:0<k
   ·have l1:(mtD k).length=1:=rfl
    have c2:wZ (mtD k) o=true:=by simp only[wZ,l1,decide_eq_true_eq];omega
    have e1:Int.tdiv k 10=k / 10:=Int.tdiv_eq_ediv_of_nonneg h0
    have e2:nR (Int.tdiv k 10)=k / 10:=by rw[e1];exact nT (by omega) (by omega)
    have:=ih (k / 10) (mtD k++o) (by omega) (by omega) (by rw[Int.pow_succ] at h2;omega) (by rw[List.length_append,l1];omega)
    have hd:decide (0<k)=true:=decide_eq_true hk
    unfold uf mtl
    rw[hd,e2]
    show (bif DZ true (wZ (mtD k) o) then _ else jX)=_
    rw[c2]
    exact this
   ·have hd:decide (0<k)=false:=decide_eq_false hk
    simp only[uf,hd,c1,nk,cond_true,cond_false,mtl]
 unfold Ul NL Nm
 by_cases h:k≤0
 ·simp only[decide_eq_true h,cond_true]
 ·simp only[decide_eq_false h,cond_false]
  exact key 25 k [] (by omega) (by omega) (by omega) (by simp)
def t_ (k_:Int→Rows→α) (ox:Int→Int→Rows→α) (qu i:Int) (wO:Rows):α:=
 bif decide (i<len wO) then
  bif DZ (DZ true (idx i wO)) (inl (Int.toNat i) wO) then
   ox (nR (qu+1)) (nR (i+1)) (List.set wO (Int.toNat i) (bP (nth wO (Int.toNat i)) 0 [.str (Nm qu)]))
  else jX
 else k_ qu wO
def t9 (k_:Int→Rows→α) (N m_:Nat):Int→Int→Rows→α:=
 Nat.rec (motive:=fun _=>Int→Int→Rows→α) (fun _ _ _=>jX) (fun _ ox=>t_ jX k_ ox) m_
theorem zd (k_:Int→Rows→α) (N m_:Nat):t9 jX k_ N (m_+1)=t_ jX k_ (t9 jX k_ N m_):=rfl
def xV {α:Type} (jX:α) (k_:Int→Rows→α) (l0:Int→Int→Rows→α) (a:Rows) (k:Int):α:=
 l0 k 0 a
def Ps (k_:Int→Rows→α) (N:Nat) (a:Rows) (k:Int):α:=xV jX k_ (t9 jX k_ N N) a k
def qT (k:Int):List DC:=[.str (Nm k)]
def sJ (a:Rows) (k:Int):Int×Rows:=(k+1*a.length,sn qT 1 a.length k)
theorem YK (k_:Int→Rows→α) (a:Rows) (k:Int) (qn:GO (.sl [.str]) (.sl a)) (aI:wY 1 a k=true):∃N,Ps jX k_ N a k=k_ (sJ a k).1 (sJ a k).2:=by
 obtain⟨hl,hw⟩:=oU qn
 obtain⟨h1,h2,h3⟩:=PD aI
 refine⟨a.length+1, ?_⟩
 unfold Ps xV sJ
 refine WB a k 1 qT (t9 jX k_ (a.length+1)) k_ ?_ ?_
 ·intro n i b h hb hn
  rw[zd]
  have w1:nR (k+1*(i:Int)+1)=k+1*(i:Int)+1:=nT (by omega) (by omega)
  have hs:bP (nth a i) 0 (qT (k+1*(i:Int)))=qT (k+1*(i:Int)):=vV (by rw[xF (hw (nth a i) (xu h))];rfl)
  simp only[t_,pf (show i<b.length by omega),oa (show i<b.length by omega),tf (show i<b.length by omega),ov h hl,Int.toNat_natCast,nk,nn,cond_true,hn,w1]
  rw[←hs];rfl
 ·intro n b hb
  rw[zd]
  simp only[t_,←hb,nS,cond_false]
def t8 (k_:Int→α) (a:Rows) (ox:Int→Int→α) (qu i:Int):α:=
 bif decide (i<len a) then
  bif DZ true (idx i a) then
   bif !((rS (nth a (Int.toNat i)) 0)==(Nm qu)) then k_ (-1)
   else ox (nR (qu+1)) (nR (i+1))
  else jX
 else k_ qu
def t7 (k_:Int→α) (N:Nat) (a:Rows) (m_:Nat):Int→Int→α:=
 Nat.rec (motive:=fun _=>Int→Int→α) (fun _ _=>jX) (fun _ ox=>t8 jX k_ a ox) m_
theorem zb (k_:Int→α) (N:Nat) (a:Rows) (m_:Nat):t7 jX k_ N a (m_+1)=t8 jX k_ a (t7 jX k_ N a m_):=rfl
def xS {α:Type} (jX:α) (k_:Int→α) (l0:Int→Int→α) (a:Rows) (k:Int):α:=
 l0 k 0
def Pc (k_:Int→α) (N:Nat) (a:Rows) (k:Int):α:=xS jX k_ (t7 jX k_ N a N) a k
def sG (a:Rows) (k:Int):Int:=k+1*a.length
theorem YB (k_:Int→α) (a:Rows) (k:Int) (qn:GO (.sl [.str]) (.sl a)) (aI:y7 qT 1 a k=true):∃N,Pc jX k_ N a k=k_ (sG a k):=by
 obtain⟨hl,hw⟩:=oU qn
 obtain⟨h0,h1,h2,h3⟩:=nhB aI
 refine⟨a.length+1, ?_⟩
 unfold Pc xS sG
 refine Wy a k 1 qT (t7 jX k_ (a.length+1) a) k_ h0 ?_ ?_
 ·intro n i h hn
  rw[zb]
  have w1:nR (k+1*(i:Int)+1)=k+1*(i:Int)+1:=nT (by omega) (by omega)
  simp only[t8,pf h,oa h,ov h hl,Int.toNat_natCast,nk,nn,cond_true,hn,w1,niM,beq_self_eq_true,Bool.not_true,qT,cond_false]
 ·intro n
  rw[zb]
  simp only[t8,nS,cond_false]
inductive FK where
 | i
 | b
 | s
def FK.v:FK→Int→DC
 | .i,k=> .int k
 | .b,k=> .bool (Int.tmod k 3==0)
 | .s,k=> .str (Nm k)
def FK.ne:FK→List DC→Nat→Int→Bool
 | .i,r,w,k=>rI r w != k
 | .b,r,w,k=> !(rB r w==(Int.tmod k 3==0))
 | .s,r,w,k=> !(rS r w==Nm k)
def fkF (ks:List FK):Int→List DC:=
 List.rec (motive:=fun _=>Int→List DC) (fun _=>[]) (fun f _ ih k=>f.v k::ih (k+1)) ks
theorem njf (p:List DC) (x y:DC) (r:List DC) {w:Nat} (h:p.length=w):bP (p++x::r) w [y]=p++y::r:=by
 subst h
 simp [bP]
theorem nhA (p:List DC) (x d:DC) (r:List DC) {w:Nat} (h:p.length=w):(p++x::r).getD w d=x:=by
 subst h
 simp
theorem nin {A:Rows} {i:Nat} (hi:i<A.length):A.set i (nth A i)=A:=by
 have e:nth A i=A[i]:=by simp [nth,hi]
 rw[e,List.set_getElem_self]
def mkG (i:Int) (fin:Int→Rows→α) (ks:List FK):Nat→Int→Rows→α:=
 List.rec (motive:=fun _=>Nat→Int→Rows→α) (fun _ k A=>fin k A) (fun f _ ih w k A=>bif DZ (DZ true (idx i A)) (inl (Int.toNat i) A) then ih (w+1) (nR (k+1)) (List.set A (Int.toNat i) (bP (nth A (Int.toNat i)) w [f.v k])) else jX) ks
theorem nj0 (i:Nat) (fin:Int→Rows→α):∀(ks:List FK) (w:Nat) (K:Int) (A:Rows) (p r:List DC),i<A.length→nth A i=p++r→p.length=w→r.length=ks.length→0≤K→K+ks.length≤9223372036854775807→
  mkG jX (i:Int) fin ks w K A=fin (K+ks.length) (A.set i (p++fkF ks K)):=by
 intro ks
 induction ks with
 | nil=>
  intro w K A p r hi hn hp hr h0 h1
  have hr:r=[]:=List.length_eq_zero_iff.1 hr
  subst hr
  show fin K A=fin (K+((0:Nat):Int)) (A.set i (p++[]))
  rw[←hn,nin hi]
  simp
 | cons f fs ih=>
  intro w K A p r hi hn hp hr h0 h1
  cases r with
  | nil=>cases hr
  | cons x r=>
   have hf:((f::fs).length:Int)=(fs.length:Int)+1:=by simp
   rw[hf] at h1 ⊢
   show (bif DZ (DZ true (idx (i:Int) A)) (inl (Int.toNat (i:Int)) A) then mkG jX (i:Int) fin fs (w+1) (nR (K+1)) (List.set A (Int.toNat (i:Int)) (bP (nth A (Int.toNat (i:Int))) w [f.v K])) else jX)=_
   simp only[Int.toNat_natCast,oa hi,tf hi,nk,cond_true]
   rw[show nR (K+1)=K+1 from nT (by omega) (by omega),hn,njf p x (f.v K) r hp]
   refine (ih (w+1) (K+1) _ (p++[f.v K]) r (by rw[List.length_set];exact hi) (by rw[nfG hi,List.append_assoc];rfl) (by simp [hp]) (by simpa using hr) (by omega) (by omega)).trans ?_
   rw[List.set_set,show K+1+(fs.length:Int)=K+((fs.length:Int)+1) by omega,List.append_assoc]
   rfl
def mkL (ks:List FK) {α:Type} (jX:α) (k_:Int→Rows→α) (ox:Int→Int→Rows→α) (k i:Int) (a:Rows):α:=
 bif decide (i<len a) then mkG jX i (fun k A=>ox k (nR (i+1)) A) ks 0 k a else k_ k a
def ng4 (ks:List FK) {α:Type} (jX:α) (k_:Int→Rows→α) (N m_:Nat):Int→Int→Rows→α:=
 Nat.rec (motive:=fun _=>Int→Int→Rows→α) (fun _ _ _=>jX) (fun _ ox=>mkL ks jX k_ ox) m_
def mkT {α:Type} (jX:α) (k_:Int→Rows→α) (l0:Int→Int→Rows→α) (a:Rows) (k:Int):α:=l0 k 0 a
def nb6 (ks:List FK) {α:Type} (jX:α) (k_:Int→Rows→α) (N:Nat) (a:Rows) (k:Int):α:=mkT jX k_ (ng4 ks jX k_ N N) a k
theorem nfC {c:Int} (h0:0≤c) (h1:c≤1000) {i:Nat} (hi:i≤16777216):0≤c*(i:Int)∧c*(i:Int)≤16777216000:=by
 refine⟨Int.mul_nonneg h0 (by omega), ?_⟩
 have:=Int.mul_le_mul h1 (show (i:Int)≤16777216 by omega) (by omega) (by omega)
 omega
theorem njc {α:Type} (ks:List FK) (c:Int) (hc:(ks.length:Int)=c) (Jr:c≤1000) (jX:α) (k_:Int→Rows→α) (a:Rows) (k:Int) (hl:a.length≤9223372036854775807) (hr:∀r∈a,r.length=ks.length) (aI:wY c a k=true):
  ∃N,nb6 ks jX k_ N a k=k_ (k+c*a.length) (sn (fkF ks) c a.length k):=by
 obtain⟨h1,h2,h3⟩:=PD aI
 refine⟨a.length+1, ?_⟩
 refine WB a k c (fkF ks) (ng4 ks jX k_ (a.length+1)) k_ ?_ ?_
 ·intro n i b h hb hn
  show mkL ks jX k_ (ng4 ks jX k_ (a.length+1) n) (k+c*i) (i:Int) b=_
  have lN:i<b.length:=by omega
  have hw:=hr _ (xu h)
  have hm:=nfC (c:=c) (by omega) Jr (show i≤16777216 by omega)
  unfold mkL
  rw[pf lN,cond_true]
  refine (nj0 jX i _ ks 0 (k+c*i) b [] (nth a i) lN hn rfl hw (by omega) (by omega)).trans ?_
  rw[ov h hl,hc]
  rfl
 ·intro n b hb
  show mkL ks jX k_ (ng4 ks jX k_ (a.length+1) n) (k+c*a.length) (a.length:Int) b=_
  unfold mkL
  rw[←hb,nS,cond_false]
def hlG {α:Type} (jX no:α) (a:Rows) (i:Int) (fin:Int→α) (ks:List FK):Nat→Int→α:=
 List.rec (motive:=fun _=>Nat→Int→α) (fun _ k=>fin k) (fun f _ ih w k=>bif DZ true (idx i a) then bif f.ne (nth a (Int.toNat i)) w k then no else ih (w+1) (nR (k+1)) else jX) ks
theorem njV {α:Type} (jX no:α) (a:Rows) (i:Nat) (hi:i<a.length) (fin:Int→α):∀(ks:List FK) (w:Nat) (K:Int) (p:List DC),nth a i=p++fkF ks K→p.length=w→0≤K→K+ks.length≤9223372036854775807→
  hlG jX no a (i:Int) fin ks w K=fin (K+ks.length):=by
 intro ks
 induction ks with
 | nil=>
  intro w K p hn hp h0 h1
  show fin K=fin (K+((0:Nat):Int))
  simp
 | cons f fs ih=>
  intro w K p hn hp h0 h1
  have hf:((f::fs).length:Int)=(fs.length:Int)+1:=by simp
  rw[hf] at h1 ⊢
  have hn:nth a i=p++f.v K::fkF fs (K+1):=hn
  show (bif DZ true (idx (i:Int) a) then bif f.ne (nth a (Int.toNat (i:Int))) w K then no else hlG jX no a (i:Int) fin fs (w+1) (nR (K+1)) else jX)=_
  have he:f.ne (nth a i) w K=false:=by
   rw[hn]
   cases f
   ·simp only[FK.ne,rI,nhA p _ _ _ hp,FK.v,DC.asInt,bne_self_eq_false]
   ·simp only[FK.ne,rB,nhA p _ _ _ hp,FK.v,DC.asBool,beq_self_eq_true,Bool.not_true]
   ·simp only[FK.ne,rS,nhA p _ _ _ hp,FK.v,DC.Gc,beq_self_eq_true,Bool.not_true]
  simp only[Int.toNat_natCast,oa hi,nk,cond_true,cond_false,he]
  rw[show nR (K+1)=K+1 from nT (by omega) (by omega)]
  refine (ih (w+1) (K+1) (p++[f.v K]) (by rw[hn,List.append_assoc];rfl) (by simp [hp]) (by omega) (by omega)).trans ?_
  rw[show K+1+(fs.length:Int)=K+((fs.length:Int)+1) by omega]
def hlL (ks:List FK) {α:Type} (jX:α) (k_:Int→α) (a:Rows) (ox:Int→Int→α) (k i:Int):α:=
 bif decide (i<len a) then hlG jX (k_ (-1)) a i (fun k=>ox k (nR (i+1))) ks 0 k else k_ k
def ngo (ks:List FK) {α:Type} (jX:α) (k_:Int→α) (N:Nat) (a:Rows) (m_:Nat):Int→Int→α:=
 Nat.rec (motive:=fun _=>Int→Int→α) (fun _ _=>jX) (fun _ ox=>hlL ks jX k_ a ox) m_
def hlT {α:Type} (jX:α) (k_:Int→α) (l0:Int→Int→α) (a:Rows) (k:Int):α:=l0 k 0
def nba (ks:List FK) {α:Type} (jX:α) (k_:Int→α) (N:Nat) (a:Rows) (k:Int):α:=hlT jX k_ (ngo ks jX k_ N a N) a k
theorem ni9 {α:Type} (ks:List FK) (c:Int) (hc:(ks.length:Int)=c) (Jr:c≤1000) (jX:α) (k_:Int→α) (a:Rows) (k:Int) (hl:a.length≤9223372036854775807) (aI:y7 (fkF ks) c a k=true):
  ∃N,nba ks jX k_ N a k=k_ (k+c*a.length):=by
 obtain⟨h0,h1,h2,h3⟩:=nhB aI
 refine⟨a.length+1, ?_⟩
 refine Wy a k c (fkF ks) (ngo ks jX k_ (a.length+1) a) k_ h0 ?_ ?_
 ·intro n i h hn
  show hlL ks jX k_ a (ngo ks jX k_ (a.length+1) a n) (k+c*i) (i:Int)=_
  have hm:=nfC (c:=c) (by omega) Jr (show i≤16777216 by omega)
  unfold hlL
  rw[pf h,cond_true]
  refine (njV jX _ a i h _ ks 0 (k+c*i) [] hn rfl (by omega) (by omega)).trans ?_
  rw[ov h hl,hc]
 ·intro n
  show hlL ks jX k_ a (ngo ks jX k_ (a.length+1) a n) (k+c*a.length) (a.length:Int)=_
  unfold hlL
  rw[nS,cond_false]
def PE:List FK:=[.i,.i,.i,.i,.i,.i,.s,.b]
def yj:Int→List DC:=fkF PE
def yf (a:Rows) (k:Int):Int×Rows:=(k+8*a.length,sn yj 8 a.length k)
theorem YH (k_:Int→Rows→α) (a:Rows) (k:Int) (qn:GO (.sl [.i,.i,.i,.i,.i,.i,.str,.bool]) (.sl a)) (aI:wY 8 a k=true):∃N,nb6 PE jX k_ N a k=k_ (yf a k).1 (yf a k).2:=by
 obtain⟨hl,hw⟩:=oU qn
 exact njc PE 8 (by rfl) (by decide) jX k_ a k hl (fun r hr=>xF (hw r hr)) aI
def Na (a:Rows) (k:Int):Int:=k+8*a.length
theorem Yy (k_:Int→α) (a:Rows) (k:Int) (qn:GO (.sl [.i,.i,.i,.i,.i,.i,.str,.bool]) (.sl a)) (aI:y7 yj 8 a k=true):∃N,nba PE jX k_ N a k=k_ (Na a k):=by
 exact ni9 PE 8 (by rfl) (by decide) jX k_ a k (oU qn).1 aI
def zH:List FK:=[.i,.i,.i,.b]
def vZ:Int→List DC:=fkF zH
def wz (a:Rows) (k:Int):Int×Rows:=(k+4*a.length,sn vZ 4 a.length k)
theorem WY (k_:Int→Rows→α) (a:Rows) (k:Int) (qn:GO (.sl [.i,.i,.i,.bool]) (.sl a)) (aI:wY 4 a k=true):∃N,nb6 zH jX k_ N a k=k_ (wz a k).1 (wz a k).2:=by
 obtain⟨hl,hw⟩:=oU qn
 exact njc zH 4 (by rfl) (by decide) jX k_ a k hl (fun r hr=>xF (hw r hr)) aI
def yr (a:Rows) (k:Int):Int:=k+4*a.length
theorem WN (k_:Int→α) (a:Rows) (k:Int) (qn:GO (.sl [.i,.i,.i,.bool]) (.sl a)) (aI:y7 vZ 4 a k=true):∃N,nba zH jX k_ N a k=k_ (yr a k):=by
 exact ni9 zH 4 (by rfl) (by decide) jX k_ a k (oU qn).1 aI
def Y0:List FK:=[.i,.i,.i,.i,.i,.i,.i,.i,.i]
def Ox:Int→List DC:=fkF Y0
def wB (a:Rows) (k:Int):Int×Rows:=(k+9*a.length,sn Ox 9 a.length k)
theorem nbW (k_:Int→Rows→α) (a:Rows) (k:Int) (qn:GO (.sl [.i,.i,.i,.i,.i,.i,.i,.i,.i]) (.sl a)) (aI:wY 9 a k=true):∃N,nb6 Y0 jX k_ N a k=k_ (wB a k).1 (wB a k).2:=by
 obtain⟨hl,hw⟩:=oU qn
 exact njc Y0 9 (by rfl) (by decide) jX k_ a k hl (fun r hr=>xF (hw r hr)) aI
def zi (a:Rows) (k:Int):Int:=k+9*a.length
theorem nbJ (k_:Int→α) (a:Rows) (k:Int) (qn:GO (.sl [.i,.i,.i,.i,.i,.i,.i,.i,.i]) (.sl a)) (aI:y7 Ox 9 a k=true):∃N,nba Y0 jX k_ N a k=k_ (zi a k):=by
 exact ni9 Y0 9 (by rfl) (by decide) jX k_ a k (oU qn).1 aI
def PF:List FK:=[.i,.i,.i,.i,.b,.b]
def yk:Int→List DC:=fkF PF
def yg (a:Rows) (k:Int):Int×Rows:=(k+6*a.length,sn yk 6 a.length k)
theorem YQ (k_:Int→Rows→α) (a:Rows) (k:Int) (qn:GO (.sl [.i,.i,.i,.i,.bool,.bool]) (.sl a)) (aI:wY 6 a k=true):∃N,nb6 PF jX k_ N a k=k_ (yg a k).1 (yg a k).2:=by
 obtain⟨hl,hw⟩:=oU qn
 exact njc PF 6 (by rfl) (by decide) jX k_ a k hl (fun r hr=>xF (hw r hr)) aI
def Nc (a:Rows) (k:Int):Int:=k+6*a.length
theorem YF (k_:Int→α) (a:Rows) (k:Int) (qn:GO (.sl [.i,.i,.i,.i,.bool,.bool]) (.sl a)) (aI:y7 yk 6 a k=true):∃N,nba PF jX k_ N a k=k_ (Nc a k):=by
 exact ni9 PF 6 (by rfl) (by decide) jX k_ a k (oU qn).1 aI
def zI:List FK:=[.i,.i,.i,.i,.i,.i,.i,.i,.i,.i,.i,.i,.i,.i,.i,.i,.i,.i,.i,.i,.i,.i,.i,.i,.i,.s,.i,.i,.b,.i]
def v7:Int→List DC:=fkF zI
def wC (a:Rows) (k:Int):Int×Rows:=(k+30*a.length,sn v7 30 a.length k)
theorem W0 (k_:Int→Rows→α) (a:Rows) (k:Int) (qn:GO (.sl [.i,.i,.i,.i,.i,.i,.i,.i,.i,.i,.i,.i,.i,.i,.i,.i,.i,.i,.i,.i,.i,.i,.i,.i,.i,.str,.i,.i,.bool,.i]) (.sl a)) (aI:wY 30 a k=true):∃N,nb6 zI jX k_ N a k=k_ (wC a k).1 (wC a k).2:=by
 obtain⟨hl,hw⟩:=oU qn
 exact njc zI 30 (by rfl) (by decide) jX k_ a k hl (fun r hr=>xF (hw r hr)) aI
def yt (a:Rows) (k:Int):Int:=k+30*a.length
theorem WQ (k_:Int→α) (a:Rows) (k:Int) (qn:GO (.sl [.i,.i,.i,.i,.i,.i,.i,.i,.i,.i,.i,.i,.i,.i,.i,.i,.i,.i,.i,.i,.i,.i,.i,.i,.i,.str,.i,.i,.bool,.i]) (.sl a)) (aI:y7 v7 30 a k=true):∃N,nba zI jX k_ N a k=k_ (yt a k):=by
 exact ni9 zI 30 (by rfl) (by decide) jX k_ a k (oU qn).1 aI
def Y1:List FK:=[.i,.i,.i,.i,.i,.i,.i]
def Oy:Int→List DC:=fkF Y1
def ye (a:Rows) (k:Int):Int×Rows:=(k+7*a.length,sn Oy 7 a.length k)
theorem nb1 (k_:Int→Rows→α) (a:Rows) (k:Int) (qn:GO (.sl [.i,.i,.i,.i,.i,.i,.i]) (.sl a)) (aI:wY 7 a k=true):∃N,nb6 Y1 jX k_ N a k=k_ (ye a k).1 (ye a k).2:=by
 obtain⟨hl,hw⟩:=oU qn
 exact njc Y1 7 (by rfl) (by decide) jX k_ a k hl (fun r hr=>xF (hw r hr)) aI
def Ot (a:Rows) (k:Int):Int:=k+7*a.length
theorem nbO (k_:Int→α) (a:Rows) (k:Int) (qn:GO (.sl [.i,.i,.i,.i,.i,.i,.i]) (.sl a)) (aI:y7 Oy 7 a k=true):∃N,nba Y1 jX k_ N a k=k_ (Ot a k):=by
 exact ni9 Y1 7 (by rfl) (by decide) jX k_ a k (oU qn).1 aI
def vx (k_:Int→Rows→α) (ox:Int→Int→Rows→α) (qu i:Int) (wO:Rows):α:=
 let z0:Rows:=List.set wO (Int.toNat i) (bP (nth wO (Int.toNat i)) 0 [.int qu])
 let z1:Rows:=List.set z0 (Int.toNat i) (bP (nth z0 (Int.toNat i)) 1 [.int (nR (qu+1))])
 let z2:Int:=nR ((nR (qu+1))+1)
 let z3:Rows:=List.set z1 (Int.toNat i) (bP (nth z1 (Int.toNat i)) 2 [.int z2])
 let z4:List DC:=nth z3 (Int.toNat i)
 let z5:Rows:=rR z4 3
 let z6:Int:=nR (z2+1)
 let z7:Int×Rows:=p7 z5 z6
 bif decide (i<len wO) then
  bif DZ (DZ true (idx i wO)) (inl (Int.toNat i) wO) then
   bif DZ (DZ true (idx i z0)) (inl (Int.toNat i) z0) then
    bif DZ (DZ true (idx i z1)) (inl (Int.toNat i) z1) then
     bif DZ (DZ (DZ true (idx i z3)) (inl (Int.toNat i) z3)) (wY 1 z5 z6) then
      ox z7.1 (nR (i+1)) (List.set z3 (Int.toNat i) (bP z4 3 [.sl z7.2]))
     else jX
    else jX
   else jX
  else jX
 else k_ qu wO
def vw (k_:Int→Rows→α) (N m_:Nat):Int→Int→Rows→α:=
 Nat.rec (motive:=fun _=>Int→Int→Rows→α) (fun _ _ _=>jX) (fun _ ox=>vx jX k_ ox) m_
theorem Of (k_:Int→Rows→α) (N m_:Nat):vw jX k_ N (m_+1)=vx jX k_ (vw jX k_ N m_):=rfl
def zB {α:Type} (jX:α) (k_:Int→Rows→α) (l0:Int→Int→Rows→α) (a:Rows) (k:Int):α:=
 l0 k 0 a
def SG (k_:Int→Rows→α) (N:Nat) (a:Rows) (k:Int):α:=zB jX k_ (vw jX k_ N N) a k
def qG (r:List DC) (k:Int):List DC×Int:=([.int (k),.int (k+1),.int (k+1+1),.sl (sn pF 1 (rR r 3).length (k+1+1+1))],k+1+1+1+1*(rR r 3).length)
def Nz (r:List DC) (k:Int):Bool:=wY 1 (rR r 3) (k+1+1+1)
def wA (a:Rows) (k:Int):Int×Rows:=((Nn qG a k).2,(Nn qG a k).1)
theorem nbT (k_:Int→Rows→α) (a:Rows) (k:Int) (qn:GO (.sl [.i,.i,.i,.sl [.i]]) (.sl a)) (aI:vB qG Nz a k=true):∃N,SG jX k_ N a k=k_ (wA a k).1 (wA a k).2:=by
 obtain⟨hl,hw⟩:=oU qn
 refine⟨a.length+1, ?_⟩
 unfold SG zB wA
 refine nif a k qG Nz (vw jX k_ (a.length+1)) k_ aI ?_ ?_
 ·intro n i k b h hb hn hg
  rw[Of]
  have hr:=xF (hw (nth a i) (xu h))
  have hk: -1*4≤k:=by have:=(PD hg).2.1;omega
  rw[←hn] at hg hr ⊢
  have lN:i<b.length:=by omega
  generalize Mp:nth b i=r at*
  match r,hr with
  | [a0,a1,a2,a3],_=>
   have HO:wY 1 (DC.cj a3) (k+1+1+1)=true:=hg
   obtain⟨g1,g2,g3⟩:=PD HO
   have rr:∀x0 x1 x2 x3:DC,rR [x0,x1,x2,x3] 3=DC.cj x3:=fun _ _ _ _=>rfl
   have s0:∀x0 x1 x2 x3 v:DC,bP [x0,x1,x2,x3] 0 [v]=[v,x1,x2,x3]:=fun _ _ _ _ _=>rfl
   have s1:∀x0 x1 x2 x3 v:DC,bP [x0,x1,x2,x3] 1 [v]=[x0,v,x2,x3]:=fun _ _ _ _ _=>rfl
   have s2:∀x0 x1 x2 x3 v:DC,bP [x0,x1,x2,x3] 2 [v]=[x0,x1,v,x3]:=fun _ _ _ _ _=>rfl
   have s3:∀x0 x1 x2 x3 v:DC,bP [x0,x1,x2,x3] 3 [v]=[x0,x1,x2,v]:=fun _ _ _ _ _=>rfl
   have w0:nR (k+1)=k+1:=nT (by omega) (by omega)
   have w1:nR (k+1+1)=k+1+1:=nT (by omega) (by omega)
   have w2:nR (k+1+1+1)=k+1+1+1:=nT (by omega) (by omega)
   simp only[vx,pf lN,oa lN,tf lN,ov h hl,Int.toNat_natCast,nk,nn,cond_true,Mp,w0,w1,w2,nh9,nia,List.set_set,nfG lN,s0,s1,s2,s3,rr,p7,HO,qG]
 ·intro n k b hb
  rw[Of]
  simp only[vx,←hb,nS,cond_false]
def naR (a:Rows):Bool:=sm a && a.all (fun r=>sm (rR r 3))
theorem ndS {a:Rows} (h:naR a=true) {k:Int} (h0:0≤k) (h1:k≤600000000000000):vB qG Nz a k=true∧k≤(wA a k).1∧(wA a k).1≤k+281475110928384:=by
 simp only[naR,Bool.and_eq_true,List.all_eq_true] at h
 have hl:=sX h.1
 obtain⟨h2,h3,h4⟩:=nb7 (f:=qG) (g:=Nz) (B:=1125899906842000) (C:=16777224) (by omega) a k (fun r hr k k0 k1=>by
  have hs:=sX (h.2 r hr)
  refine⟨tU (h.2 r hr) (by omega) (by omega), ?_, ?_⟩
  ·show k≤k+1+1+1+1*((rR r 3).length:Int)
   omega
  ·show k+1+1+1+1*((rR r 3).length:Int)≤k+16777224
   omega) h0 (by omega)
 exact⟨h2,h3,by show (Nn qG a k).2≤_;omega⟩
def vq (k_:Int→α) (a:Rows) (ox:Int→Int→α) (qu i:Int):α:=
 let z0:Int:=nR ((nR (qu+1))+1)
 let z1:Int:=nR (z0+1)
 let z2:Int:=pG (rR (nth a (Int.toNat i)) 3) z1
 bif decide (i<len a) then
  bif DZ true (idx i a) then
   bif (rI (nth a (Int.toNat i)) 0) != qu then k_ (-1)
   else bif DZ true (idx i a) then
     bif (rI (nth a (Int.toNat i)) 1) != (nR (qu+1)) then k_ (-1)
     else bif DZ true (idx i a) then
       bif (rI (nth a (Int.toNat i)) 2) != z0 then k_ (-1)
       else bif DZ (DZ true (idx i a)) (y7 pF 1 (rR (nth a (Int.toNat i)) 3) z1) then
         bif decide (z2<0) then k_ (-1)
         else ox z2 (nR (i+1))
        else jX
      else jX
    else jX
  else jX
 else k_ qu
def vp (k_:Int→α) (N:Nat) (a:Rows) (m_:Nat):Int→Int→α:=
 Nat.rec (motive:=fun _=>Int→Int→α) (fun _ _=>jX) (fun _ ox=>vq jX k_ a ox) m_
theorem N7 (k_:Int→α) (N:Nat) (a:Rows) (m_:Nat):vp jX k_ N a (m_+1)=vq jX k_ a (vp jX k_ N a m_):=rfl
def zs {α:Type} (jX:α) (k_:Int→α) (l0:Int→Int→α) (a:Rows) (k:Int):α:=
 l0 k 0
def Sq (k_:Int→α) (N:Nat) (a:Rows) (k:Int):α:=zs jX k_ (vp jX k_ N a N) a k
def Wz (a:Rows) (k:Int):Bool:=same a (Nn qG a k).1 && vB qG Nz a k
def RO (a:Rows) (k:Int):Int:=(Nn qG a k).2
theorem nbG (k_:Int→α) (a:Rows) (k:Int) (qn:GO (.sl [.i,.i,.i,.sl [.i]]) (.sl a)) (aI:Wz a k=true):∃N,Sq jX k_ N a k=k_ (RO a k):=by
 obtain⟨hl,hw⟩:=oU qn
 simp only[Wz,Bool.and_eq_true] at aI
 refine⟨a.length+1, ?_⟩
 unfold Sq zs RO
 refine nh8 a k qG Nz (vp jX k_ (a.length+1) a) k_ aI.2 (p8 aI.1) ?_ ?_
 ·intro n i k h hn hg
  rw[N7]
  have HO:wY 1 (rR (nth a i) 3) (k+1+1+1)=true:=hg
  obtain⟨g1,g2,g3⟩:=PD HO
  have e:rR (nth a i) 3=sn pF 1 (rR (nth a i) 3).length (k+1+1+1):=congrArg (fun r=>rR r 3) hn
  have hh:y7 pF 1 (rR (nth a i) 3) (k+1+1+1)=true:=by
   simp only[y7,Bool.and_eq_true]
   exact⟨by rw[←e];exact oI _,HO⟩
  have r0:rI (nth a i) 0=k:=congrArg (fun r=>rI r 0) hn
  have r1:rI (nth a i) 1=k+1:=congrArg (fun r=>rI r 1) hn
  have r2:rI (nth a i) 2=k+1+1:=congrArg (fun r=>rI r 2) hn
  have w0:nR (k+1)=k+1:=nT (by omega) (by omega)
  have w1:nR (k+1+1)=k+1+1:=nT (by omega) (by omega)
  have w2:nR (k+1+1+1)=k+1+1+1:=nT (by omega) (by omega)
  have hz:¬k+1+1+1+1*((rR (nth a i) 3).length:Int)<0:=by omega
  simp only[vq,pf h,oa h,ov h hl,Int.toNat_natCast,nk,nn,cond_true,hh,pG,hz,w0,w1,w2,r0,r1,r2,bne_self_eq_false,beq_self_eq_true,Bool.not_true,decide_false,cond_false,qG]
 ·intro n k
  rw[N7]
  simp only[vq,nS,cond_false]
theorem njy {a:Rows} (h:naR a=true) {k:Int} (h0:0≤k) (h1:k≤600000000000000):vB qG Nz a k=true∧Wz (Nn qG a k).1 k=true∧(Nn qG (Nn qG a k).1 k).2=(Nn qG a k).2∧k≤(Nn qG a k).2∧(Nn qG a k).2≤k+281475110928384:=by
 obtain⟨h2,h3,h4⟩:=ndS h h0 h1
 have hl:∀r k,(rR (qG r k).1 3).length=(rR r 3).length:=fun r k=>oQ pF 1 _ _
 have hf:∀r k,qG (qG r k).1 k=qG r k:=by
  intro r k
  have e:=hl r k
  unfold qG at e ⊢
  simp only[e]
 have hg:∀r k,Nz (qG r k).1 k=Nz r k:=by
  intro r k
  simp only[Nz,wY,sm,hl]
 obtain⟨t1,t2⟩:=nb8 hf hg a k
 refine⟨h2, ?_,by rw[t1],h3,h4⟩
 simp only[Wz,t1,t2,h2,oI,Bool.and_self]
def vz (k_:Int→Rows→α) (ox:Int→Int→Rows→α) (qu i:Int) (wO:Rows):α:=
 let z0:Rows:=List.set wO (Int.toNat i) (bP (nth wO (Int.toNat i)) 0 [.int qu])
 let z1:Rows:=List.set z0 (Int.toNat i) (bP (nth z0 (Int.toNat i)) 1 [.int (nR (qu+1))])
 let z2:List DC:=nth z1 (Int.toNat i)
 let z3:Rows:=rR z2 2
 let z4:Int:=nR ((nR (qu+1))+1)
 let z5:Int×Rows:=p7 z3 z4
 bif decide (i<len wO) then
  bif DZ (DZ true (idx i wO)) (inl (Int.toNat i) wO) then
   bif DZ (DZ true (idx i z0)) (inl (Int.toNat i) z0) then
    bif DZ (DZ (DZ true (idx i z1)) (inl (Int.toNat i) z1)) (wY 1 z3 z4) then
     ox z5.1 (nR (i+1)) (List.set z1 (Int.toNat i) (bP z2 2 [.sl z5.2]))
    else jX
   else jX
  else jX
 else k_ qu wO
def vy (k_:Int→Rows→α) (N m_:Nat):Int→Int→Rows→α:=
 Nat.rec (motive:=fun _=>Int→Int→Rows→α) (fun _ _ _=>jX) (fun _ ox=>vz jX k_ ox) m_
theorem Oj (k_:Int→Rows→α) (N m_:Nat):vy jX k_ N (m_+1)=vz jX k_ (vy jX k_ N m_):=rfl
def zE {α:Type} (jX:α) (k_:Int→Rows→α) (l0:Int→Int→Rows→α) (a:Rows) (k:Int):α:=
 l0 k 0 a
def SM (k_:Int→Rows→α) (N:Nat) (a:Rows) (k:Int):α:=zE jX k_ (vy jX k_ N N) a k
def qH (r:List DC) (k:Int):List DC×Int:=([.int (k),.int (k+1),.sl (sn pF 1 (rR r 2).length (k+1+1))],k+1+1+1*(rR r 2).length)
def NA (r:List DC) (k:Int):Bool:=wY 1 (rR r 2) (k+1+1)
def wD (a:Rows) (k:Int):Int×Rows:=((Nn qH a k).2,(Nn qH a k).1)
theorem nbY (k_:Int→Rows→α) (a:Rows) (k:Int) (qn:GO (.sl [.i,.i,.sl [.i]]) (.sl a)) (aI:vB qH NA a k=true):∃N,SM jX k_ N a k=k_ (wD a k).1 (wD a k).2:=by
 obtain⟨hl,hw⟩:=oU qn
 refine⟨a.length+1, ?_⟩
 unfold SM zE wD
 refine nif a k qH NA (vy jX k_ (a.length+1)) k_ aI ?_ ?_
 ·intro n i k b h hb hn hg
  rw[Oj]
  have hr:=xF (hw (nth a i) (xu h))
  have hk: -1*3≤k:=by have:=(PD hg).2.1;omega
  rw[←hn] at hg hr ⊢
  have lN:i<b.length:=by omega
  generalize Mp:nth b i=r at*
  match r,hr with
  | [a0,a1,a2],_=>
   have HO:wY 1 (DC.cj a2) (k+1+1)=true:=hg
   obtain⟨g1,g2,g3⟩:=PD HO
   have rr:∀x0 x1 x2:DC,rR [x0,x1,x2] 2=DC.cj x2:=fun _ _ _=>rfl
   have s0:∀x0 x1 x2 v:DC,bP [x0,x1,x2] 0 [v]=[v,x1,x2]:=fun _ _ _ _=>rfl
   have s1:∀x0 x1 x2 v:DC,bP [x0,x1,x2] 1 [v]=[x0,v,x2]:=fun _ _ _ _=>rfl
   have s2:∀x0 x1 x2 v:DC,bP [x0,x1,x2] 2 [v]=[x0,x1,v]:=fun _ _ _ _=>rfl
   have w0:nR (k+1)=k+1:=nT (by omega) (by omega)
   have w1:nR (k+1+1)=k+1+1:=nT (by omega) (by omega)
   simp only[vz,pf lN,oa lN,tf lN,ov h hl,Int.toNat_natCast,nk,nn,cond_true,Mp,w0,w1,nh9,nia,List.set_set,nfG lN,s0,s1,s2,rr,p7,HO,qH]
 ·intro n k b hb
  rw[Oj]
  simp only[vz,←hb,nS,cond_false]
def nez (a:Rows):Bool:=sm a && a.all (fun r=>sm (rR r 2))
theorem ndT {a:Rows} (h:nez a=true) {k:Int} (h0:0≤k) (h1:k≤600000000000000):vB qH NA a k=true∧k≤(wD a k).1∧(wD a k).1≤k+281475110928384:=by
 simp only[nez,Bool.and_eq_true,List.all_eq_true] at h
 have hl:=sX h.1
 obtain⟨h2,h3,h4⟩:=nb7 (f:=qH) (g:=NA) (B:=1125899906842000) (C:=16777224) (by omega) a k (fun r hr k k0 k1=>by
  have hs:=sX (h.2 r hr)
  refine⟨tU (h.2 r hr) (by omega) (by omega), ?_, ?_⟩
  ·show k≤k+1+1+1*((rR r 2).length:Int)
   omega
  ·show k+1+1+1*((rR r 2).length:Int)≤k+16777224
   omega) h0 (by omega)
 exact⟨h2,h3,by show (Nn qH a k).2≤_;omega⟩
def vt (k_:Int→α) (a:Rows) (ox:Int→Int→α) (qu i:Int):α:=
 let z0:Int:=nR ((nR (qu+1))+1)
 let z1:Int:=pG (rR (nth a (Int.toNat i)) 2) z0
 bif decide (i<len a) then
  bif DZ true (idx i a) then
   bif (rI (nth a (Int.toNat i)) 0) != qu then k_ (-1)
   else bif DZ true (idx i a) then
     bif (rI (nth a (Int.toNat i)) 1) != (nR (qu+1)) then k_ (-1)
     else bif DZ (DZ true (idx i a)) (y7 pF 1 (rR (nth a (Int.toNat i)) 2) z0) then
       bif decide (z1<0) then k_ (-1)
       else ox z1 (nR (i+1))
      else jX
    else jX
  else jX
 else k_ qu
def vr (k_:Int→α) (N:Nat) (a:Rows) (m_:Nat):Int→Int→α:=
 Nat.rec (motive:=fun _=>Int→Int→α) (fun _ _=>jX) (fun _ ox=>vt jX k_ a ox) m_
theorem Oa (k_:Int→α) (N:Nat) (a:Rows) (m_:Nat):vr jX k_ N a (m_+1)=vt jX k_ a (vr jX k_ N a m_):=rfl
def zw {α:Type} (jX:α) (k_:Int→α) (l0:Int→Int→α) (a:Rows) (k:Int):α:=
 l0 k 0
def Sx (k_:Int→α) (N:Nat) (a:Rows) (k:Int):α:=zw jX k_ (vr jX k_ N a N) a k
def WA (a:Rows) (k:Int):Bool:=same a (Nn qH a k).1 && vB qH NA a k
def RP (a:Rows) (k:Int):Int:=(Nn qH a k).2
theorem nbL (k_:Int→α) (a:Rows) (k:Int) (qn:GO (.sl [.i,.i,.sl [.i]]) (.sl a)) (aI:WA a k=true):∃N,Sx jX k_ N a k=k_ (RP a k):=by
 obtain⟨hl,hw⟩:=oU qn
 simp only[WA,Bool.and_eq_true] at aI
 refine⟨a.length+1, ?_⟩
 unfold Sx zw RP
 refine nh8 a k qH NA (vr jX k_ (a.length+1) a) k_ aI.2 (p8 aI.1) ?_ ?_
 ·intro n i k h hn hg
  rw[Oa]
  have HO:wY 1 (rR (nth a i) 2) (k+1+1)=true:=hg
  obtain⟨g1,g2,g3⟩:=PD HO
  have e:rR (nth a i) 2=sn pF 1 (rR (nth a i) 2).length (k+1+1):=congrArg (fun r=>rR r 2) hn
  have hh:y7 pF 1 (rR (nth a i) 2) (k+1+1)=true:=by
   simp only[y7,Bool.and_eq_true]
   exact⟨by rw[←e];exact oI _,HO⟩
  have r0:rI (nth a i) 0=k:=congrArg (fun r=>rI r 0) hn
  have r1:rI (nth a i) 1=k+1:=congrArg (fun r=>rI r 1) hn
  have w0:nR (k+1)=k+1:=nT (by omega) (by omega)
  have w1:nR (k+1+1)=k+1+1:=nT (by omega) (by omega)
  have hz:¬k+1+1+1*((rR (nth a i) 2).length:Int)<0:=by omega
  simp only[vt,pf h,oa h,ov h hl,Int.toNat_natCast,nk,nn,cond_true,hh,pG,hz,w0,w1,r0,r1,bne_self_eq_false,beq_self_eq_true,Bool.not_true,decide_false,cond_false,qH]
 ·intro n k
  rw[Oa]
  simp only[vt,nS,cond_false]
theorem njz {a:Rows} (h:nez a=true) {k:Int} (h0:0≤k) (h1:k≤600000000000000):vB qH NA a k=true∧WA (Nn qH a k).1 k=true∧(Nn qH (Nn qH a k).1 k).2=(Nn qH a k).2∧k≤(Nn qH a k).2∧(Nn qH a k).2≤k+281475110928384:=by
 obtain⟨h2,h3,h4⟩:=ndT h h0 h1
 have hl:∀r k,(rR (qH r k).1 2).length=(rR r 2).length:=fun r k=>oQ pF 1 _ _
 have hf:∀r k,qH (qH r k).1 k=qH r k:=by
  intro r k
  have e:=hl r k
  unfold qH at e ⊢
  simp only[e]
 have hg:∀r k,NA (qH r k).1 k=NA r k:=by
  intro r k
  simp only[NA,wY,sm,hl]
 obtain⟨t1,t2⟩:=nb8 hf hg a k
 refine⟨h2, ?_,by rw[t1],h3,h4⟩
 simp only[WA,t1,t2,h2,oI,Bool.and_self]
def Vn {α:Type} (k_:Bool→α) (n low high:Int):α:=
 k_ (bif decide (low≤n) then decide (n≤high) else false)
def nx (n low high:Int):Bool:=Vn id n low high
theorem Vl {α:Type} (k_:Bool→α) (n low high:Int):Vn k_ n low high=k_ (nx n low high):=by
 rfl
def we (k_:Bool→α) (x:Rows) (ot vf:Int) (tW:Rows) (ox:Int→α) (oA:Int):α:=
 let z0:Bool:= !(nx (rI (nth x (Int.toNat oA)) 0) 0 4095)
 bif decide (oA<ot) then
  bif DZ true (idx oA x) then
   bif LG z0 true (LG (decide (0<oA)) (DZ true (idx (nR (oA - 1)) tW)) true) then
    bif bif z0 then true else bif decide (0<oA) then decide (rI (nth x (Int.toNat oA)) 0≤rI (nth tW (Int.toNat (nR (oA - 1)))) 0) else false then k_ false
    else ox (nR (oA+1))
   else jX
  else jX
 else k_ (bif nx vf 0 281474976710654 then decide (len tW≤8) else false)
def wc (k_:Bool→α) (N:Nat) (x:Rows) (ot vf:Int) (tW:Rows) (m_:Nat):Int→α:=
 Nat.rec (motive:=fun _=>Int→α) (fun _=>jX) (fun _ ox=>we jX k_ x ot vf tW ox) m_
theorem OH (k_:Bool→α) (N:Nat) (x:Rows) (ot vf:Int) (tW:Rows) (m_:Nat):wc jX k_ N x ot vf tW (m_+1)=we jX k_ x ot vf tW (wc jX k_ N x ot vf tW m_):=rfl
def NC {α:Type} (jX:α) (k_:Bool→α) (l0:Rows→Int→Int→Rows→Int→α) (f:nm):α:=
 l0 f.nZ (len f.nZ) f.Qe f.nZ 0
def Tw (k_:Bool→α) (N:Nat) (f:nm):α:=NC jX k_ (fun x ot vf tW=>wc jX k_ N x ot vf tW N) f
def Ou (f:nm):Bool:=bif pr (fun i r=>bif !(nx (rI r 0) 0 4095) then true else bif decide ((0:Int)<(i:Int)) then decide (rI r 0≤rI (nth f.nZ (Int.toNat (nR ((i:Int) - 1)))) 0) else false) f.nZ 0 then false else bif nx f.Qe 0 281474976710654 then decide (len f.nZ≤8) else false
theorem ncM (k_:Bool→α) (f:nm) (h_f:jV nm.ct f.enc):∃N,Tw jX k_ N f=k_ (Ou f):=by
 obtain⟨hl,_⟩:=oU (nm.ngn h_f)
 refine⟨f.nZ.length+1, ?_⟩
 unfold Tw NC
 refine (qo f.nZ (wc jX k_ (f.nZ.length+1) f.nZ (len f.nZ) f.Qe f.nZ) (fun i r c=>bif bif !(nx (rI r 0) 0 4095) then true else bif decide ((0:Int)<(i:Int)) then decide (rI r 0≤rI (nth f.nZ (Int.toNat (nR ((i:Int) - 1)))) 0) else false then k_ false else c) (k_ (bif nx f.Qe 0 281474976710654 then decide (len f.nZ≤8) else false)) ?_ ?_).trans ?_
 ·intro n i h
  have hp:decide ((0:Int)<(i:Int))=true→idx (nR ((i:Int) - 1)) f.nZ=true:=by
   intro h0
   have h0:=of_decide_eq_true h0
   rw[nT (by omega) (by omega),show (i:Int) - 1=((i - 1:Nat):Int) by omega]
   exact oa (by omega)
  rw[OH]
  simp only[we,pf h,oa h,ov h hl,Int.toNat_natCast,nk,nn,cond_true]
  exact na9 (nhl (fun _=>rfl) (fun _=>nhl (fun h0=>hp h0) (fun _=>rfl)))
 ·intro n
  rw[OH]
  simp only[we,nS,cond_false]
 ·refine (v8 (fun i r=>bif !(nx (rI r 0) 0 4095) then true else bif decide ((0:Int)<(i:Int)) then decide (rI r 0≤rI (nth f.nZ (Int.toNat (nR ((i:Int) - 1)))) 0) else false) _ _ f.nZ 0).trans ?_
  exact JR rfl rfl
def wJ (k_:Bool→α) (vf:Int) (tW:Rows) (ox:Int→α) (k:Int):α:=
 let z0:Bool:= !(nx (rI (nth tW (Int.toNat k)) 0) 0 4095)
 bif decide (k<len tW) then
  bif LG z0 (DZ true (idx k tW)) (LG (decide (0<k)) (DZ (DZ (DZ true (idx k tW)) (idx k tW)) (idx (nR (k - 1)) tW)) (DZ true (idx k tW))) then
   bif bif z0 then true else bif decide (0<k) then decide (rI (nth tW (Int.toNat k)) 0≤rI (nth tW (Int.toNat (nR (k - 1)))) 0) else false then k_ false
   else ox (nR (k+1))
  else jX
 else k_ (bif nx vf 0 281474976710654 then decide (len tW≤8) else false)
def wI (k_:Bool→α) (N:Nat) (vf:Int) (tW:Rows) (m_:Nat):Int→α:=
 Nat.rec (motive:=fun _=>Int→α) (fun _=>jX) (fun _ ox=>wJ jX k_ vf tW ox) m_
theorem PJ (k_:Bool→α) (N:Nat) (vf:Int) (tW:Rows) (m_:Nat):wI jX k_ N vf tW (m_+1)=wJ jX k_ vf tW (wI jX k_ N vf tW m_):=rfl
def NR {α:Type} (jX:α) (k_:Bool→α) (l0:Int→Rows→Int→α) (f:nm):α:=
 l0 f.Qe f.nZ 0
def UD (k_:Bool→α) (N:Nat) (f:nm):α:=NR jX k_ (fun vf tW=>wI jX k_ N vf tW N) f
theorem nd0 (k_:Bool→α) (f:nm) (h_f:jV nm.ct f.enc):∃N,UD jX k_ N f=k_ (Ou f):=by
 obtain⟨hl,_⟩:=oU (nm.ngn h_f)
 refine⟨f.nZ.length+1, ?_⟩
 unfold UD NR
 refine (qo f.nZ (wI jX k_ (f.nZ.length+1) f.Qe f.nZ) (fun i r c=>bif bif !(nx (rI r 0) 0 4095) then true else bif decide ((0:Int)<(i:Int)) then decide (rI r 0≤rI (nth f.nZ (Int.toNat (nR ((i:Int) - 1)))) 0) else false then k_ false else c) (k_ (bif nx f.Qe 0 281474976710654 then decide (len f.nZ≤8) else false)) ?_ ?_).trans ?_
 ·intro n i h
  have hp:decide ((0:Int)<(i:Int))=true→idx (nR ((i:Int) - 1)) f.nZ=true:=by
   intro h0
   have h0:=of_decide_eq_true h0
   rw[nT (by omega) (by omega),show (i:Int) - 1=((i - 1:Nat):Int) by omega]
   exact oa (by omega)
  rw[PJ]
  simp only[wJ,pf h,oa h,ov h hl,Int.toNat_natCast,nk,nn,cond_true]
  exact na9 (nhl (fun _=>rfl) (fun _=>nhl (fun h0=>hp h0) (fun _=>rfl)))
 ·intro n
  rw[PJ]
  simp only[wJ,nS,cond_false]
 ·refine (v8 (fun i r=>bif !(nx (rI r 0) 0 4095) then true else bif decide ((0:Int)<(i:Int)) then decide (rI r 0≤rI (nth f.nZ (Int.toNat (nR ((i:Int) - 1)))) 0) else false) _ _ f.nZ 0).trans ?_
  exact JR rfl rfl
def t5 (k_:Int→α) (domain oc:Int) (nc:Rows) (ot:Int) (ox:Int→α) (oA:Int):α:=
 bif decide (oA<ot) then
  bif DZ true (idx oA nc) then
   bif bif (rI (nth nc (Int.toNat oA)) 0)==domain then (rI (nth nc (Int.toNat oA)) 1)==oc else false then k_ oA
   else ox (nR (oA+1))
  else jX
 else k_ (-1)
def tZ (k_:Int→α) (N:Nat) (domain oc:Int) (nc:Rows) (ot:Int) (m_:Nat):Int→α:=
 Nat.rec (motive:=fun _=>Int→α) (fun _=>jX) (fun _ ox=>t5 jX k_ domain oc nc ot ox) m_
theorem y_ (k_:Int→α) (N:Nat) (domain oc:Int) (nc:Rows) (ot:Int) (m_:Nat):tZ jX k_ N domain oc nc ot (m_+1)=t5 jX k_ domain oc nc ot (tZ jX k_ N domain oc nc ot m_):=rfl
def xP {α:Type} (jX:α) (k_:Int→α) (l0:Int→Int→α) (nc:Rows) (domain oc:Int):α:=
 l0 (len nc) 0
def OW (k_:Int→α) (N:Nat) (nc:Rows) (domain oc:Int):α:=xP jX k_ (fun ot=>tZ jX k_ N domain oc nc ot N) nc domain oc
def qV (nc:Rows) (domain oc:Int):Int:=findIdx (fun _ r=>bif (rI r 0)==domain then (rI r 1)==oc else false) nc 0
theorem Yr (k_:Int→α) (nc:Rows) (domain oc:Int) (pC:GO (.sl [.i,.i,.i,.bool]) (.sl nc)):∃N,OW jX k_ N nc domain oc=k_ (qV nc domain oc):=by
 obtain⟨hl,_⟩:=oU pC
 refine⟨nc.length+1, ?_⟩
 unfold OW xP
 refine (qo nc (tZ jX k_ (nc.length+1) domain oc nc (len nc)) (fun i r c=>bif bif (rI r 0)==domain then (rI r 1)==oc else false then k_ (i:Int) else c) (k_ (-1)) ?_ ?_).trans ?_
 ·intro n i h
  rw[y_]
  simp only[t5,pf h,oa h,ov h hl,Int.toNat_natCast,nk,nn,cond_true]
 ·intro n
  rw[y_]
  simp only[t5,nS,cond_false]
 ·exact Ta (fun i r=>bif (rI r 0)==domain then (rI r 1)==oc else false) k_ nc 0
def uq (k_:Bool→α) (nc x:Rows) (ot:Int) (ox:Int→α) (oA:Int):α:=
 bif decide (oA<ot) then
  bif DZ true (idx oA x) then
   bif bif !(nx (rI (nth x (Int.toNat oA)) 0) 0 7) then true else bif !(nx (rI (nth x (Int.toNat oA)) 1) 0 1023) then true else bif !(nx (rI (nth x (Int.toNat oA)) 2) 0 63) then true else (qV nc (rI (nth x (Int.toNat oA)) 0) (rI (nth x (Int.toNat oA)) 1)) != oA then k_ false
   else ox (nR (oA+1))
  else jX
 else k_ (decide (len nc≤96))
def uo (k_:Bool→α) (N:Nat) (nc x:Rows) (ot:Int) (m_:Nat):Int→α:=
 Nat.rec (motive:=fun _=>Int→α) (fun _=>jX) (fun _ ox=>uq jX k_ nc x ot ox) m_
theorem Ng (k_:Bool→α) (N:Nat) (nc x:Rows) (ot:Int) (m_:Nat):uo jX k_ N nc x ot (m_+1)=uq jX k_ nc x ot (uo jX k_ N nc x ot m_):=rfl
def yv {α:Type} (jX:α) (k_:Bool→α) (l0:Rows→Int→Int→α) (nc:Rows):α:=
 l0 nc (len nc) 0
def Qq (k_:Bool→α) (N:Nat) (nc:Rows):α:=yv jX k_ (fun x ot=>uo jX k_ N nc x ot N) nc
def tT (r:List DC):Bool:=bif !(nx (rI r 0) 0 7) then true else bif !(nx (rI r 1) 0 1023) then true else !(nx (rI r 2) 0 63)
def oZ (nc:Rows):Bool:=bif decide (96<len nc) then false else bif pr (fun i r=>bif tT r then true else vI (fun j=>bif (rI (nth nc j) 0)==(rI r 0) then (rI (nth nc j) 1)==(rI r 1) else false) i 0) nc 0 then false else true
theorem ZI (k_:Bool→α) (nc:Rows) (pC:GO (.sl [.i,.i,.i,.bool]) (.sl nc)):∃N,Qq jX k_ N nc=k_ (oZ nc):=by
 obtain⟨hl,_⟩:=oU pC
 refine⟨nc.length+1, ?_⟩
 unfold Qq yv
 refine (qo nc (uo jX k_ (nc.length+1) nc nc (len nc)) (fun i r c=>bif (bif tT r then true else (qV nc (rI r 0) (rI r 1)) != (i:Int)) then k_ false else c) (k_ (decide (len nc≤96))) ?_ ?_).trans ?_
 ·intro n i h
  rw[Ng]
  simp only[uq,pf h,oa h,ov h hl,Int.toNat_natCast,nk,nn,cond_true]
  unfold tT
  cases nx (rI (nth nc i) 0) 0 7<;>cases nx (rI (nth nc i) 1) 0 1023<;>cases nx (rI (nth nc i) 2) 0 63<;>rfl
 ·intro n
  rw[Ng]
  simp only[uq,nS,cond_false]
 ·refine (v8 (fun i r=>bif tT r then true else (qV nc (rI r 0) (rI r 1)) != (i:Int)) _ _ nc 0).trans ?_
  have e:pr (fun i r=>bif tT r then true else (qV nc (rI r 0) (rI r 1)) != (i:Int)) nc 0=pr (fun i r=>bif tT r then true else vI (fun j=>bif (rI (nth nc j) 0)==(rI r 0) then (rI (nth nc j) 1)==(rI r 1) else false) i 0) nc 0:=by
   apply Zr
   intro i hi
   rw[Nat.zero_add]
   have hf:=Ya (fun _ r=>bif (rI r 0)==(rI (nth nc i) 0) then (rI r 1)==(rI (nth nc i) 1) else false) nc 0 i hi (by simp)
   rw[Nat.zero_add] at hf
   have hf:((qV nc (rI (nth nc i) 0) (rI (nth nc i) 1)) != (i:Int))=_:=hf
   rw[hf]
  rw[e]
  unfold oZ
  by_cases h9:96<len nc
  ·simp only[decide_eq_true h9,cond_true,show decide (len nc≤96)=false from decide_eq_false (by omega)]
   cases pr (fun i r=>bif tT r then true else vI (fun j=>bif (rI (nth nc j) 0)==(rI r 0) then (rI (nth nc j) 1)==(rI r 1) else false) i 0) nc 0<;>rfl
  ·simp only[decide_eq_false h9,cond_false,show decide (len nc≤96)=true from decide_eq_true (by omega)]
   exact JR rfl rfl
def sY (k_:Bool→α) (l1:Int→Int→Int→Int→α) (nc:Rows) (ox:Int→α) (k:Int):α:=
 bif decide (k<len nc) then
  bif DZ true (idx k nc) then
   bif bif !(nx (rI (nth nc (Int.toNat k)) 0) 0 7) then true else bif !(nx (rI (nth nc (Int.toNat k)) 1) 0 1023) then true else !(nx (rI (nth nc (Int.toNat k)) 2) 0 63) then k_ false
   else l1 k (rI (nth nc (Int.toNat k)) 0) (rI (nth nc (Int.toNat k)) 1) 0
  else jX
 else k_ true
def sZ (k_:Bool→α) (ox:Int→α) (nc:Rows) (k x ot:Int) (ih1:Int→α) (i:Int):α:=
 let z0:Bool:=(rI (nth nc (Int.toNat i)) 0)==x
 bif decide (i<k) then
  bif LG z0 (DZ (DZ true (idx i nc)) (idx i nc)) (DZ true (idx i nc)) then
   bif bif z0 then (rI (nth nc (Int.toNat i)) 1)==ot else false then k_ false
   else ih1 (nR (i+1))
  else jX
 else ox (nR (k+1))
def pE (k_:Bool→α) (N:Nat) (ox:Int→α) (nc:Rows) (k x ot:Int) (m_:Nat):Int→α:=
 Nat.rec (motive:=fun _=>Int→α) (fun _=>jX) (fun _ ih1=>sZ jX k_ ox nc k x ot ih1) m_
theorem Ns (k_:Bool→α) (N:Nat) (ox:Int→α) (nc:Rows) (k x ot:Int) (m_:Nat) (i:Int):pE jX k_ N ox nc k x ot (m_+1) i=sZ jX k_ ox nc k x ot (pE jX k_ N ox nc k x ot m_) i:=rfl
def rM (k_:Bool→α) (N:Nat) (nc:Rows) (m_:Nat):Int→α:=
 Nat.rec (motive:=fun _=>Int→α) (fun _=>jX) (fun _ ox=>sY jX k_ (fun k x ot=>pE jX k_ N ox nc k x ot N) nc ox) m_
theorem Nr (k_:Bool→α) (N:Nat) (nc:Rows) (m_:Nat) (k:Int):rM jX k_ N nc (m_+1) k=sY jX k_ (fun k x ot=>pE jX k_ N (rM jX k_ N nc m_) nc k x ot N) nc (rM jX k_ N nc m_) k:=rfl
def QV {α:Type} (jX:α) (k_:Bool→α) (l0:Int→α) (nc:Rows):α:=
 bif decide (96<len nc) then k_ false
 else l0 0
def yU (k_:Bool→α) (N:Nat) (nc:Rows):α:=QV jX k_ (rM jX k_ N nc N) nc
theorem naU (k_:Bool→α) (nc:Rows) (pC:GO (.sl [.i,.i,.i,.bool]) (.sl nc)):∃N,yU jX k_ N nc=k_ (oZ nc):=by
 obtain⟨hl,_⟩:=oU pC
 refine⟨nc.length+1, ?_⟩
 unfold yU QV oZ
 refine JR rfl ?_
 have inner:∀(ih:Int→α) (i:Nat),i<nc.length→pE jX k_ (nc.length+1) ih nc (i:Int) (rI (nth nc i) 0) (rI (nth nc i) 1) (nc.length+1) 0=bif vI (fun j=>bif (rI (nth nc j) 0)==(rI (nth nc i) 0) then (rI (nth nc j) 1)==(rI (nth nc i) 1) else false) i 0 then k_ false else ih ((i:Int)+1):=by
  intro ih i hi
  have hw:nR ((i:Int)+1)=(i:Int)+1:=ov hi hl
  have:=nib (σ:=Unit) i (fun n j _=>pE jX k_ (nc.length+1) ih nc (i:Int) (rI (nth nc i) 0) (rI (nth nc i) 1) n j) (fun j c s=>bif (bif (rI (nth nc j) 0)==(rI (nth nc i) 0) then (rI (nth nc j) 1)==(rI (nth nc i) 1) else false) then k_ false else c s) (fun _=>ih ((i:Int)+1)) ?_ ?_ (nc.length+1) () (by omega)
  ·exact this.trans (niW (fun j=>bif (rI (nth nc j) 0)==(rI (nth nc i) 0) then (rI (nth nc j) 1)==(rI (nth nc i) 1) else false) (k_ false) (ih ((i:Int)+1)) i 0)
  ·intro n j _ hj
   show pE jX k_ (nc.length+1) ih nc (i:Int) (rI (nth nc i) 0) (rI (nth nc i) 1) (n+1) (j:Int)=_
   rw[Ns]
   have h1:decide ((j:Int)<(i:Int))=true:=decide_eq_true (by omega)
   have h2:idx (j:Int) nc=true:=oa (by omega)
   have h3:nR ((j:Int)+1)=(j:Int)+1:=nT (by omega) (by omega)
   simp only[sZ,h1,h2,h3,Int.toNat_natCast,nk,nn,nb9,cond_true]
  ·intro n _
   show pE jX k_ (nc.length+1) ih nc (i:Int) (rI (nth nc i) 0) (rI (nth nc i) 1) (n+1) (i:Int)=_
   rw[Ns]
   have h1:decide ((i:Int)<(i:Int))=false:=decide_eq_false (by omega)
   simp only[sZ,h1,hw,cond_false]
 refine (xY nc (rM jX k_ (nc.length+1) nc) (fun i r c=>bif (bif tT r then true else vI (fun j=>bif (rI (nth nc j) 0)==(rI r 0) then (rI (nth nc j) 1)==(rI r 1) else false) i 0) then k_ false else c) (k_ true) ?_ ?_ (nc.length+1) (by omega)).trans ?_
 ·intro n i h
  rw[Nr]
  simp only[sY,pf h,oa h,Int.toNat_natCast,nk,nn,cond_true,nb9,inner _ i h]
  show (bif tT (nth nc i) then k_ false else _)=_
  cases tT (nth nc i)<;>rfl
 ·intro n
  rw[Nr]
  simp only[sY,nS,cond_false]
 ·refine (v8 (fun i r=>bif tT r then true else vI (fun j=>bif (rI (nth nc j) 0)==(rI r 0) then (rI (nth nc j) 1)==(rI r 1) else false) i 0) _ _ nc 0).trans ?_
  exact JR rfl rfl
def OT (k_:Rows→α) (l:Rows):α:=
 bif DZ true (pK 16 [] l) then
  k_ l
 else jX
theorem Yp (k_:Rows→α) (l:Rows) (aI:sm l=true):OT jX k_ l=k_ (qY l):=by
 unfold OT
 rw[xd aI (show 16≤8388608 by omega)]
 rfl
def Qx (k_:na→α) (m:na):α:=
 bif DZ true (sm m.nF) then
  k_ (⟨qY m.nF⟩:na)
 else jX
def xc (m:na):Bool:=sm m.nF
theorem ZS (k_:na→α) (m:na) (aI:xc m=true):Qx jX k_ m=k_ (qY m):=by
 have h:sm m.nF=true:=aI
 unfold Qx
 simp only[h,nk,cond_true]
 rfl
def wh (k_:Bool→α) (x:Rows) (ot:Int) (tX:Rows) (ox:Int→α) (oA:Int):α:=
 bif decide (oA<ot) then
  bif DZ true (idx oA x) then
   bif (len (rS (nth x (Int.toNat oA)) 0)) != 128 then k_ false
   else ox (nR (oA+1))
  else jX
 else k_ (decide (len tX≤64))
def wg (k_:Bool→α) (N:Nat) (x:Rows) (ot:Int) (tX:Rows) (m_:Nat):Int→α:=
 Nat.rec (motive:=fun _=>Int→α) (fun _=>jX) (fun _ ox=>wh jX k_ x ot tX ox) m_
theorem OJ (k_:Bool→α) (N:Nat) (x:Rows) (ot:Int) (tX:Rows) (m_:Nat):wg jX k_ N x ot tX (m_+1)=wh jX k_ x ot tX (wg jX k_ N x ot tX m_):=rfl
def NF {α:Type} (jX:α) (k_:Bool→α) (l0:Rows→Int→Rows→Int→α) (m:na):α:=
 l0 m.nF (len m.nF) m.nF 0
def TE (k_:Bool→α) (N:Nat) (m:na):α:=NF jX k_ (fun x ot tX=>wg jX k_ N x ot tX N) m
def qe (m:na):Bool:=bif pr (fun _ r=>(len (rS r 0)) != 128) m.nF 0 then false else decide (len m.nF≤64)
theorem ncS (k_:Bool→α) (m:na) (Ye:jV na.ct m.enc):∃N,TE jX k_ N m=k_ (qe m):=by
 obtain⟨hl,_⟩:=oU (na.Nw Ye)
 refine⟨m.nF.length+1, ?_⟩
 unfold TE NF qe
 refine (qo m.nF (wg jX k_ (m.nF.length+1) m.nF (len m.nF) m.nF) (fun i r c=>bif (len (rS r 0)) != 128 then k_ false else c) (k_ (decide (len m.nF≤64))) ?_ ?_).trans ?_
 ·intro n i h
  rw[OJ]
  simp only[wh,pf h,oa h,ov h hl,Int.toNat_natCast,nk,nn,cond_true]
 ·intro n
  rw[OJ]
  simp only[wh,nS,cond_false]
 ·refine (v8 (fun _ r=>(len (rS r 0)) != 128) _ _ m.nF 0).trans ?_
  exact JR rfl rfl
def wL (k_:Bool→α) (tX:Rows) (ox:Int→α) (k:Int):α:=
 bif decide (k<len tX) then
  bif DZ true (idx k tX) then
   bif (len (rS (nth tX (Int.toNat k)) 0)) != 128 then k_ false
   else ox (nR (k+1))
  else jX
 else k_ (decide (len tX≤64))
def wK (k_:Bool→α) (N:Nat) (tX:Rows) (m_:Nat):Int→α:=
 Nat.rec (motive:=fun _=>Int→α) (fun _=>jX) (fun _ ox=>wL jX k_ tX ox) m_
theorem PL (k_:Bool→α) (N:Nat) (tX:Rows) (m_:Nat):wK jX k_ N tX (m_+1)=wL jX k_ tX (wK jX k_ N tX m_):=rfl
def NT {α:Type} (jX:α) (k_:Bool→α) (l0:Rows→Int→α) (m:na):α:=
 l0 m.nF 0
def UJ (k_:Bool→α) (N:Nat) (m:na):α:=NT jX k_ (fun tX=>wK jX k_ N tX N) m
theorem nd5 (k_:Bool→α) (m:na) (Ye:jV na.ct m.enc):∃N,UJ jX k_ N m=k_ (qe m):=by
 obtain⟨hl,_⟩:=oU (na.Nw Ye)
 refine⟨m.nF.length+1, ?_⟩
 unfold UJ NT qe
 refine (qo m.nF (wK jX k_ (m.nF.length+1) m.nF) (fun i r c=>bif (len (rS r 0)) != 128 then k_ false else c) (k_ (decide (len m.nF≤64))) ?_ ?_).trans ?_
 ·intro n i h
  rw[PL]
  simp only[wL,pf h,oa h,ov h hl,Int.toNat_natCast,nk,nn,cond_true]
 ·intro n
  rw[PL]
  simp only[wL,nS,cond_false]
 ·refine (v8 (fun _ r=>(len (rS r 0)) != 128) _ _ m.nF 0).trans ?_
  exact JR rfl rfl
def NH {α:Type} (k_:Bool→α) (n:Int):α:=
 k_ (bif n==2 then true else bif n==4 then true else bif n==8 then true else n==16)
def tK (n:Int):Bool:=NH id n
theorem TS {α:Type} (k_:Bool→α) (n:Int):NH k_ n=k_ (tK n):=by
 rfl
def R1 {α:Type} (k_:Bool→α) (n:Int):α:=
 k_ (bif n==1 then true else bif n==2 then true else bif n==4 then true else bif n==8 then true else n==16)
def S5 (n:Int):Bool:=R1 id n
theorem R0 {α:Type} (k_:Bool→α) (n:Int):R1 k_ n=k_ (S5 n):=by
 rfl
def w7 (k_:Int→α) (x n:Int):α:=
 bif DZ true (!(n==0)) then
  k_ (bif decide (Int.tmod x n<0) then nR ((Int.tmod x n)+n) else Int.tmod x n)
 else jX
def yh (x n:Int):Bool:=w7 false (fun _=>true) x n
def Tf (x n:Int):Int:=(w7 none (fun r0=>some (r0)) x n).getD 0
theorem ngv (k_:Int→α) (x n:Int) (aI:yh x n=true):w7 jX k_ x n=k_ (Tf x n):=by
 exact sa (K:=fun r:Int=>k_ r) (nM oH) aI
def TI (k_:Int→α) (r:ny):α:=
 let z0:Int:=nR ((Tf r.pM (nR (2*r.nK))) - (Tf r.Head (nR (2*r.nK))))
 bif !(tK r.nK) then k_ 0
 else bif DZ (DZ (DZ true (yh r.pM (nR (2*r.nK)))) (yh r.Head (nR (2*r.nK)))) (yh z0 (nR (2*r.nK))) then
   k_ (Tf z0 (nR (2*r.nK)))
  else jX
theorem Zq (k:Nat) (hk:k≤62) (a:Int):bits .and .i64 a ((2 ^ k - 1:Nat):Int)=a % ((2 ^ k:Nat):Int):=by
 have hp:2 ^ k≤2 ^ 62:=Nat.pow_le_pow_right (by decide) hk
 have h62:(2:Nat) ^ 62=4611686018427387904:=by decide
 have hd:2 ^ k ∣ (18446744073709551616:Nat):=by
  rw[show (18446744073709551616:Nat)=2 ^ 64 by decide]
  exact Nat.pow_dvd_pow 2 (by omega)
 have hc:(BitVec.ofInt 64 ((2 ^ k - 1:Nat):Int)).toNat=2 ^ k - 1:=by
  rw[BitVec.ofInt_natCast,BitVec.toNat_ofNat]
  exact Nat.mod_eq_of_lt (by omega)
 have hn:(BitVec.ofInt 64 a &&& BitVec.ofInt 64 ((2 ^ k - 1:Nat):Int)).toNat=(a % 18446744073709551616).toNat % 2 ^ k:=by
  rw[BitVec.toNat_and,hc,Nat.and_two_pow_sub_one_eq_mod,BitVec.toNat_ofInt]
  rfl
 have cl:(a % 18446744073709551616).toNat % 2 ^ k<2 ^ k:=Nat.mod_lt _ (Nat.pos_of_ne_zero (by intro h;have:=Nat.two_pow_pos k;omega))
 have h63:(((BitVec.ofInt 64 a &&& BitVec.ofInt 64 ((2 ^ k - 1:Nat):Int)).toNat:Nat):Int)<2 ^ 63:=by
  rw[hn]
  have:(2:Int) ^ 63=9223372036854775808:=by decide
  rw[this]
  omega
 have e:bits .and .i64 a ((2 ^ k - 1:Nat):Int)=(((BitVec.ofInt 64 a &&& BitVec.ofInt 64 ((2 ^ k - 1:Nat):Int)).toNat:Nat):Int):=
  nji (((BitVec.ofInt 64 a &&& BitVec.ofInt 64 ((2 ^ k - 1:Nat):Int)).toNat:Nat):Int) (Int.natCast_nonneg _) h63
 rw[e,hn,Int.natCast_emod,Int.toNat_of_nonneg (Int.emod_nonneg _ (by decide)),Int.emod_emod_of_dvd]
 exact Int.natCast_dvd_natCast.2 hd
theorem and_3 (a:Int):bits .and .i64 a 3=a % 4:=Zq 2 (by decide) a
theorem nkg (a:Int):bits .and .i64 a 7=a % 8:=Zq 3 (by decide) a
theorem nki (a:Int):bits .and .i64 a 15=a % 16:=Zq 4 (by decide) a
theorem nkj (a:Int):bits .and .i64 a 31=a % 32:=Zq 5 (by decide) a
theorem PG {n:Int} (h:tK n=true):n=2∨n=4∨n=8∨n=16:=by
 unfold tK NH at h
 by_cases h2:n=2
 ·exact .inl h2
 by_cases h4:n=4
 ·exact .inr (.inl h4)
 by_cases h8:n=8
 ·exact .inr (.inr (.inl h8))
 by_cases h16:n=16
 ·exact .inr (.inr (.inr h16))
 simp [h2,h4,h8,h16] at h
theorem Tg {x n:Int} (hx: -9223372036854775808≤x) (B6:x≤9223372036854775807) (h:0<n) (h':n≤4294967296):yh x n=true∧Tf x n=x % n:=by
 have hn:(n==0)=false:=by simp;omega
 have e:Tf x n=bif decide (Int.tmod x n<0) then nR ((Int.tmod x n)+n) else Int.tmod x n:=by
  unfold Tf w7
  rw[hn]
  rfl
 refine⟨by unfold yh w7;rw[hn];rfl, ?_⟩
 rw[e]
 have h1:=Int.tmod_eq_emod (a:=x) (b:=n)
 have h2:=Int.emod_nonneg x (show n≠0 by omega)
 have h3:=Int.emod_lt_of_pos x h
 by_cases hl:Int.tmod x n<0
 ·rw[decide_eq_true hl,cond_true]
  split at h1
  ·omega
  ·have hna:((n.natAbs:Nat):Int)=n:=by omega
   rw[hna] at h1
   rw[nT (by omega) (by omega)]
   omega
 ·rw[decide_eq_false hl,cond_false]
  split at h1
  ·omega
  ·have hna:((n.natAbs:Nat):Int)=n:=by omega
   rw[hna] at h1
   omega
def vG (r:ny):Int:=bif tK r.nK then (r.pM - r.Head) % (2*r.nK) else 0
theorem nc1 (k_:Int→α) (r:ny) (h_r:jV ny.ct r.enc):TI jX k_ r=k_ (vG r):=by
 have ht:=vW (ny.nke h_r)
 have hh:=vW (ny.nkb h_r)
 unfold TI vG
 cases hs:tK r.nK
 ·rfl
 ·have h2:nR (2*r.nK)=2*r.nK∧0<2*r.nK∧2*r.nK≤32:=by
   rcases PG hs with h | h | h | h<;>rw[h]<;>exact⟨rfl,by decide,by decide⟩
  obtain⟨h2,h3,h4⟩:=h2
  obtain⟨a1,a2⟩:=Tg ht.1 ht.2 h3 (by omega)
  obtain⟨b1,b2⟩:=Tg hh.1 hh.2 h3 (by omega)
  have n1:=Int.emod_nonneg r.pM (show 2*r.nK≠0 by omega)
  have n2:=Int.emod_lt_of_pos r.pM h3
  have m1:=Int.emod_nonneg r.Head (show 2*r.nK≠0 by omega)
  have m2:=Int.emod_lt_of_pos r.Head h3
  have hw:nR (r.pM % (2*r.nK) - r.Head % (2*r.nK))=r.pM % (2*r.nK) - r.Head % (2*r.nK):=nT (by omega) (by omega)
  obtain⟨c1,c2⟩:=Tg (x:=r.pM % (2*r.nK) - r.Head % (2*r.nK)) (by omega) (by omega) h3 (by omega)
  simp only[h2,a1,a2,b1,b2,hw,c1,c2,nk,nn,cond_true,Bool.not_true,cond_false]
  rw[←Int.sub_emod]
def UP {α:Type} (k_:Int→α) (r:ny):α:=
 bif !(tK r.nK) then k_ 0
 else k_ (bits .and .i64 (nR (r.pM - r.Head)) (nR ((nR (2*r.nK)) - 1)))
theorem nee {α:Type} (k_:Int→α) (r:ny):UP k_ r=k_ (vG r):=by
 unfold UP vG
 cases hs:tK r.nK
 ·rfl
 ·have key:bits .and .i64 (nR (r.pM - r.Head)) (nR ((nR (2*r.nK)) - 1))=(r.pM - r.Head) % (2*r.nK):=by
   rcases PG hs with h | h | h | h<;>rw[h]
   ·exact (and_3 _).trans (by rw[ncs];show _=(r.pM - r.Head) % 4;omega)
   ·exact (nkg _).trans (by rw[ncs];show _=(r.pM - r.Head) % 8;omega)
   ·exact (nki _).trans (by rw[ncs];show _=(r.pM - r.Head) % 16;omega)
   ·exact (nkj _).trans (by rw[ncs];show _=(r.pM - r.Head) % 32;omega)
  simp only[key,Bool.not_true,cond_false,cond_true]
def zS {α:Type} (k_:Bool→α) (r:ny):α:=
 let z0:Int:=nR ((nR (2*r.nK)) - 1)
 k_ (bif nx r.oB 0 130944 then bif tK r.nK then bif nx r.Head 0 z0 then bif nx r.pM 0 z0 then decide (vG r≤r.nK) else false else false else false else false)
def sO (r:ny):Bool:=zS id r
theorem Xh {α:Type} (k_:Bool→α) (r:ny):zS k_ r=k_ (sO r):=by
 rfl
theorem zY {r:ny} (h:sO r=true):2≤r.nK∧r.nK≤16:=by
 have hs:tK r.nK=true:=by
  cases hs:tK r.nK
  ·unfold sO zS at h
   rw[hs] at h
   revert h
   cases nx r.oB 0 130944<;>simp
  ·rfl
 rcases PG hs with h | h | h | h<;>omega
def ne4 {α:Type} (k_:Bool→α) (v:nO):α:=
 k_ (bif decide (1≤v.Count) then bif decide (v.pn≤v.Count) then true else decide (v.qc≤v.Time) else false)
def due (v:nO):Bool:=ne4 id v
theorem ne3 {α:Type} (k_:Bool→α) (v:nO):ne4 k_ v=k_ (due v):=by
 rfl
def TP {α:Type} (k_:Bool→α) (v:nO):α:=
 let z0:Bool:=bif due v then v.rD== !v.rH else v.rD==false
 bif bif !(nx v.pn 1 64) then true else bif !(nx v.qc 0 64) then true else bif !(nx v.Count 0 1000000) then true else !(nx v.Time 0 1000000) then k_ false
 else k_ (bif decide (0<v.Count) then z0 else bif v.Time==0 then z0 else false)
def neE (v:nO):Bool:=TP id v
theorem TN {α:Type} (k_:Bool→α) (v:nO):TP k_ v=k_ (neE v):=by
 exact JR rfl rfl
def Ri {α:Type} (k_:Bool→α) (r:oy):α:=
 let z0:Bool:=bif !(nx r.qC 0 4294967295) then true else !(nx r.neu 0 32)
 let z1:Bool:=bif r.Action==1 then r.Queue==0 else false
 bif bif !(nx r.Priority 0 1000) then true else bif r.Kind != 0 then bif r.Kind != 6 then bif r.Kind != 17 then true else z0 else z0 else z0 then k_ false
 else bif bif decide (r.RJ<0) then true else bif decide (r.U3<r.RJ) then true else bif decide (65535<r.U3) then true else !(nx r.Zp (-2) 4095) then k_ false
 else k_ (bif r.Action==0 then bif nx r.Queue 0 3 then true else z1 else z1)
def zf (r:oy):Bool:=Ri id r
theorem Xi {α:Type} (k_:Bool→α) (r:oy):Ri k_ r=k_ (zf r):=by
 exact JR rfl (JR rfl rfl)
def xj (k_:Bool→α) (nc x:Rows) (ot:Int) (ox:Int→α) (oA:Int):α:=
 bif decide (oA<ot) then
  bif DZ true (idx oA x) then
   bif !(zf (oy.nh (nth x (Int.toNat oA)) 0)) then k_ false
   else ox (nR (oA+1))
  else jX
 else k_ (decide (len nc≤12))
def xi (k_:Bool→α) (N:Nat) (nc x:Rows) (ot:Int) (m_:Nat):Int→α:=
 Nat.rec (motive:=fun _=>Int→α) (fun _=>jX) (fun _ ox=>xj jX k_ nc x ot ox) m_
theorem Qt (k_:Bool→α) (N:Nat) (nc x:Rows) (ot:Int) (m_:Nat):xi jX k_ N nc x ot (m_+1)=xj jX k_ nc x ot (xi jX k_ N nc x ot m_):=rfl
def OL {α:Type} (jX:α) (k_:Bool→α) (l0:Rows→Int→Int→α) (nc:Rows):α:=
 l0 nc (len nc) 0
def Vk (k_:Bool→α) (N:Nat) (nc:Rows):α:=OL jX k_ (fun x ot=>xi jX k_ N nc x ot N) nc
def On (nc:Rows):Bool:=bif nc.all (fun r=>zf (oy.nh r 0)) then decide (len nc≤12) else false
theorem neW (k_:Bool→α) (nc:Rows) (pC:GO (.sl [.i,.i,.i,.i,.i,.i,.i,.i,.i]) (.sl nc)):∃N,Vk jX k_ N nc=k_ (On nc):=by
 obtain⟨hl,_⟩:=oU pC
 refine⟨nc.length+1, ?_⟩
 unfold Vk OL
 refine (qo nc (xi jX k_ (nc.length+1) nc nc (len nc)) (fun i r c=>bif !(zf (oy.nh r 0)) then k_ false else c) (k_ (decide (len nc≤12))) ?_ ?_).trans ?_
 ·intro n i h
  rw[Qt]
  simp only[xj,pf h,oa h,ov h hl,Int.toNat_natCast,nk,nn,cond_true]
 ·intro n
  rw[Qt]
  simp only[xj,nS,cond_false]
 ·refine (Qj (fun r=>zf (oy.nh r 0)) _ _ nc 0).trans ?_
  exact JR rfl rfl
def xz (k_:Bool→α) (nc:Rows) (ox:Int→α) (k:Int):α:=
 bif decide (k<len nc) then
  bif DZ true (idx k nc) then
   bif !(zf (oy.nh (nth nc (Int.toNat k)) 0)) then k_ false
   else ox (nR (k+1))
  else jX
 else k_ (decide (len nc≤12))
def xy (k_:Bool→α) (N:Nat) (nc:Rows) (m_:Nat):Int→α:=
 Nat.rec (motive:=fun _=>Int→α) (fun _=>jX) (fun _ ox=>xz jX k_ nc ox) m_
theorem QY (k_:Bool→α) (N:Nat) (nc:Rows) (m_:Nat):xy jX k_ N nc (m_+1)=xz jX k_ nc (xy jX k_ N nc m_):=rfl
def PN {α:Type} (jX:α) (k_:Bool→α) (l0:Int→α) (nc:Rows):α:=
 l0 0
def V9 (k_:Bool→α) (N:Nat) (nc:Rows):α:=PN jX k_ (xy jX k_ N nc N) nc
theorem nfT (k_:Bool→α) (nc:Rows) (pC:GO (.sl [.i,.i,.i,.i,.i,.i,.i,.i,.i]) (.sl nc)):∃N,V9 jX k_ N nc=k_ (On nc):=by
 obtain⟨hl,_⟩:=oU pC
 refine⟨nc.length+1, ?_⟩
 unfold V9 PN
 refine (qo nc (xy jX k_ (nc.length+1) nc) (fun i r c=>bif !(zf (oy.nh r 0)) then k_ false else c) (k_ (decide (len nc≤12))) ?_ ?_).trans ?_
 ·intro n i h
  rw[QY]
  simp only[xz,pf h,oa h,ov h hl,Int.toNat_natCast,nk,nn,cond_true]
 ·intro n
  rw[QY]
  simp only[xz,nS,cond_false]
 ·refine (Qj (fun r=>zf (oy.nh r 0)) _ _ nc 0).trans ?_
  exact JR rfl rfl
def TQ (k_:Rows→α) (l:Rows):α:=
 bif DZ true (pK 8 [] l) then
  k_ l
 else jX
theorem nda (k_:Rows→α) (l:Rows) (aI:sm l=true):TQ jX k_ l=k_ (qY l):=by
 unfold TQ
 rw[xd aI (show 8≤8388608 by omega)]
 rfl
def TR (k_:nt→α) (p:nt):α:=
 bif DZ true (sm p.nY) then
  k_ (⟨p.oB,p.nK,p.Count,qY p.nY⟩:nt)
 else jX
def VX (p:nt):Bool:=sm p.nY
theorem ndb (k_:nt→α) (p:nt) (aI:VX p=true):TR jX k_ p=k_ (qY p):=by
 have h:sm p.nY=true:=aI
 unfold TR
 simp only[h,nk,cond_true]
 rfl
def Ws (k_:nt→α) (p:nt):α:=
 bif DZ true (pK 8 [] p.nY) then
  k_ p
 else jX
theorem nga (k_:nt→α) (p:nt) (aI:VX p=true):Ws jX k_ p=k_ (qY p):=by
 have h:sm p.nY=true:=aI
 unfold Ws
 rw[xd h (show 8≤8388608 by omega)]
 rfl
def yz (k_:Bool→α) (x:Rows) (ot vF:Int) (ox:Int→Rows→α) (oA:Int) (seen:Rows):α:=
 let z0:Bool:= !(nx (rI (nth x (Int.toNat oA)) 0) 0 (nR (vF - 1)))
 let z1:Nat:=Int.toNat (rI (nth x (Int.toNat oA)) 0)
 let z2:Bool:=DZ (DZ true (idx (rI (nth x (Int.toNat oA)) 0) seen)) (inl z1 seen)
 let z3:List DC:=nth seen z1
 bif decide (oA<ot) then
  bif DZ true (idx oA x) then
   bif LG z0 true z2 then
    bif bif z0 then true else rB z3 0 then k_ false
    else bif z2 then
      ox (nR (oA+1)) (List.set seen z1 (bP z3 0 [.bool true]))
     else jX
   else jX
  else jX
 else k_ true
def yy (k_:Bool→α) (N:Nat) (x:Rows) (ot vF:Int) (m_:Nat):Int→Rows→α:=
 Nat.rec (motive:=fun _=>Int→Rows→α) (fun _ _=>jX) (fun _ ox=>yz jX k_ x ot vF ox) m_
theorem RW (k_:Bool→α) (N:Nat) (x:Rows) (ot vF:Int) (m_:Nat):yy jX k_ N x ot vF (m_+1)=yz jX k_ x ot vF (yy jX k_ N x ot vF m_):=rfl
def Rg (k_:Bool→α) (l0:Rows→Int→Int→Int→Rows→α) (p:nt):α:=
 bif bif !(nx p.oB 0 130944) then true else bif !(nx p.nK 1 512) then true else !(nx p.Count 0 16) then k_ false
 else bif DZ true (xZ 1 p.Count p.Count) then
   l0 p.nY (len p.nY) p.Count 0 (List.replicate (Int.toNat p.Count) ([.bool false]:List DC))
  else jX
def Xg (k_:Bool→α) (N:Nat) (p:nt):α:=Rg jX k_ (fun x ot vF=>yy jX k_ N x ot vF N) p
def ncD {α σ:Type} (P:List DC→σ→Bool) (f:List DC→σ→σ) (x:α) (fin:σ→α):Rows→σ→α
 | [],s=>fin s
 | r::rs,s=>bif P r s then x else ncD P f x fin rs (f r s)
theorem XY {α σ:Type} (list:Rows) (L:Nat→Int→σ→α) (P:List DC→σ→Bool) (f:List DC→σ→σ) (x:α) (fin:σ→α) (I:Nat→σ→Prop) (hI:∀i s,i<list.length→I i s→P (nth list i) s=false→I (i+1) (f (nth list i) s))
  (hs:∀n i s,i<list.length→I i s→L (n+1) (i:Int) s=bif P (nth list i) s then x else L n ((i:Int)+1) (f (nth list i) s))
  (hz:∀n s,I list.length s→L (n+1) (list.length:Int) s=fin s):∀(m i:Nat) (s:σ),i+m=list.length→I i s→L (m+1) (i:Int) s=ncD P f x fin (list.drop i) s
 | 0,i,s,h,hi=>by
  have:i=list.length:=by omega
  subst this
  rw[hz 0 s hi,List.drop_length]
  rfl
 | m+1,i,s,h,hi=>by
  have cl:i<list.length:=by omega
  rw[hs (m+1) i s cl hi,List.drop_eq_getElem_cons cl]
  have hn:nth list i=list[i]:=by simp [nth,List.getD_eq_getElem?_getD,cl]
  show _=bif P list[i] s then x else ncD P f x fin (list.drop (i+1)) (f list[i] s)
  rw[←hn]
  cases hp:P (nth list i) s
  ·rw[cond_false,cond_false]
   have:=XY list L P f x fin I hI hs hz m (i+1) (f (nth list i) s) (by omega) (hI i s cl hi hp)
   rw[←this]
   rfl
  ·rfl
theorem nic {α σ:Type} (list:Rows) (L:Nat→Int→σ→α) (P:List DC→σ→Bool) (f:List DC→σ→σ) (x:α) (fin:σ→α) (I:Nat→σ→Prop) (hI:∀i s,i<list.length→I i s→P (nth list i) s=false→I (i+1) (f (nth list i) s))
  (hs:∀n i s,i<list.length→I i s→L (n+1) (i:Int) s=bif P (nth list i) s then x else L n ((i:Int)+1) (f (nth list i) s))
  (hz:∀n s,I list.length s→L (n+1) (list.length:Int) s=fin s) (s:σ) (h:I 0 s):L (list.length+1) 0 s=ncD P f x fin list s:=
 XY list L P f x fin I hI hs hz list.length 0 s (by omega) h
theorem niC {α β σ:Type} (k:β→α) (P:List DC→σ→Bool) (f:List DC→σ→σ) {x:β} (fin:σ→β):∀(list:Rows) (s:σ),ncD P f (k x) (fun s=>k (fin s)) list s=k (ncD P f x fin list s)
 | [],s=>rfl
 | r::rs,s=>by
  simp only[ncD]
  cases P r s
  ·exact niC k P f fin rs _
  ·rfl
def nih (n:Int) (r:List DC) (s:Rows):Bool:=bif !(nx (rI r 0) 0 (n - 1)) then true else rB (nth s (Int.toNat (rI r 0))) 0
def nfI (r:List DC) (s:Rows):Rows:=List.set s (Int.toNat (rI r 0)) (bP (nth s (Int.toNat (rI r 0))) 0 [.bool true])
theorem naQ (r:List DC) (s:Rows):(nfI r s).length=s.length:=by simp [nfI]
def tP (p:nt):Bool:=bif bif !(nx p.oB 0 130944) then true else bif !(nx p.nK 1 512) then true else !(nx p.Count 0 16) then false
 else ncD (nih p.Count) nfI false (fun _=>true) p.nY (List.replicate (Int.toNat p.Count) [.bool false])
theorem ngq (k_:Bool→α) (p:nt) (h_p:jV nt.ct p.enc):∃N,Xg jX k_ N p=k_ (tP p):=by
 obtain⟨hl,hw⟩:=oU (nt.ni5 h_p)
 refine⟨p.nY.length+1, ?_⟩
 unfold Xg Rg tP
 refine qv (fun _=>rfl) (fun hg=> ?_)
 have hc:0≤p.Count∧p.Count≤16:=by
  cases h1:nx p.oB 0 130944
  ·rw[h1] at hg;cases hg
  cases h2:nx p.nK 1 512
  ·rw[h1,h2] at hg;cases hg
  cases h3:nx p.Count 0 16
  ·rw[h1,h2,h3] at hg;cases hg
  exact oX.1 h3
 have hmk:xZ 1 p.Count p.Count=true:=by
  simp only[xZ,Bool.and_eq_true,decide_eq_true_eq]
  omega
 rw[hmk,nk,cond_true]
 refine (nic p.nY (yy jX k_ (p.nY.length+1) p.nY (len p.nY) p.Count) (nih p.Count) nfI (k_ false) (fun _=>k_ true) (fun _ s=>(s.length:Int)=p.Count) (fun i s _ h _=> ?_) ?_ ?_ (List.replicate (Int.toNat p.Count) [.bool false]) ?_).trans ?_
 ·show ((nfI (nth p.nY i) s).length:Int)=p.Count
  rw[naQ,h]
 ·intro n i s h hs
  rw[RW]
  have hw1:nR (p.Count - 1)=p.Count - 1:=nT (by omega) (by omega)
  have hx:nx (rI (nth p.nY i) 0) 0 (p.Count - 1)=true→idx (rI (nth p.nY i) 0) s=true∧inl (Int.toNat (rI (nth p.nY i) 0)) s=true:=by
   intro hb
   have:=oX.1 hb
   refine⟨?_, ?_⟩
   ·simp only[idx,Bool.and_eq_true,decide_eq_true_eq];omega
   ·simp only[inl,decide_eq_true_eq];omega
  unfold nih
  simp only[yz,pf h,oa h,ov h hl,Int.toNat_natCast,nk,nn,cond_true,hw1]
  cases hb:nx (rI (nth p.nY i) 0) 0 (p.Count - 1)
  ·rw[nhl (g:= !false) (x:=true) (fun _=>rfl) (fun h=>by cases h)]
   rfl
  ·obtain⟨x1,x2⟩:=hx hb
   rw[x1,x2]
   rfl
 ·intro n s _
  rw[RW]
  simp only[yz,nS,cond_false]
 ·simp only[List.length_replicate];omega
 ·exact niC k_ _ _ (fun _=>true) p.nY _
def yY (k_:Bool→α) (vF:Int) (Nq:Rows) (ox:Int→Rows→α) (k:Int) (seen:Rows):α:=
 let z0:Bool:= !(nx (rI (nth Nq (Int.toNat k)) 0) 0 (nR (vF - 1)))
 let z1:Bool:=idx (rI (nth Nq (Int.toNat k)) 0) seen
 let z2:Nat:=Int.toNat (rI (nth Nq (Int.toNat k)) 0)
 let z3:Bool:=inl z2 seen
 let z4:List DC:=nth seen z2
 bif decide (k<len Nq) then
  bif LG z0 (DZ true (idx k Nq)) (DZ (DZ (DZ (DZ true (idx k Nq)) (idx k Nq)) z1) z3) then
   bif bif z0 then true else rB z4 0 then k_ false
   else bif DZ (DZ (DZ true (idx k Nq)) z1) z3 then
     ox (nR (k+1)) (List.set seen z2 (bP z4 0 [.bool true]))
    else jX
  else jX
 else k_ true
def yX (k_:Bool→α) (N:Nat) (vF:Int) (Nq:Rows) (m_:Nat):Int→Rows→α:=
 Nat.rec (motive:=fun _=>Int→Rows→α) (fun _ _=>jX) (fun _ ox=>yY jX k_ vF Nq ox) m_
theorem S1 (k_:Bool→α) (N:Nat) (vF:Int) (Nq:Rows) (m_:Nat):yX jX k_ N vF Nq (m_+1)=yY jX k_ vF Nq (yX jX k_ N vF Nq m_):=rfl
def RH (k_:Bool→α) (l0:Int→Rows→Int→Rows→α) (p:nt):α:=
 bif bif !(nx p.oB 0 130944) then true else bif !(nx p.nK 1 512) then true else !(nx p.Count 0 16) then k_ false
 else bif DZ true (xZ 1 p.Count p.Count) then
   l0 p.Count p.nY 0 (List.replicate (Int.toNat p.Count) ([.bool false]:List DC))
  else jX
def X3 (k_:Bool→α) (N:Nat) (p:nt):α:=RH jX k_ (fun vF Nq=>yX jX k_ N vF Nq N) p
theorem ng7 (k_:Bool→α) (p:nt) (h_p:jV nt.ct p.enc):∃N,X3 jX k_ N p=k_ (tP p):=by
 obtain⟨hl,hw⟩:=oU (nt.ni5 h_p)
 refine⟨p.nY.length+1, ?_⟩
 unfold X3 RH tP
 refine qv (fun _=>rfl) (fun hg=> ?_)
 have hc:0≤p.Count∧p.Count≤16:=by
  cases h1:nx p.oB 0 130944
  ·rw[h1] at hg;cases hg
  cases h2:nx p.nK 1 512
  ·rw[h1,h2] at hg;cases hg
  cases h3:nx p.Count 0 16
  ·rw[h1,h2,h3] at hg;cases hg
  exact oX.1 h3
 have hmk:xZ 1 p.Count p.Count=true:=by
  simp only[xZ,Bool.and_eq_true,decide_eq_true_eq]
  omega
 rw[hmk,nk,cond_true]
 refine (nic p.nY (yX jX k_ (p.nY.length+1) p.Count p.nY) (nih p.Count) nfI (k_ false) (fun _=>k_ true) (fun _ s=>(s.length:Int)=p.Count) (fun i s _ h _=> ?_) ?_ ?_ (List.replicate (Int.toNat p.Count) [.bool false]) ?_).trans ?_
 ·show ((nfI (nth p.nY i) s).length:Int)=p.Count
  rw[naQ,h]
 ·intro n i s h hs
  rw[S1]
  have hw1:nR (p.Count - 1)=p.Count - 1:=nT (by omega) (by omega)
  have hx:nx (rI (nth p.nY i) 0) 0 (p.Count - 1)=true→idx (rI (nth p.nY i) 0) s=true∧inl (Int.toNat (rI (nth p.nY i) 0)) s=true:=by
   intro hb
   have:=oX.1 hb
   refine⟨?_, ?_⟩
   ·simp only[idx,Bool.and_eq_true,decide_eq_true_eq];omega
   ·simp only[inl,decide_eq_true_eq];omega
  unfold nih
  simp only[yY,pf h,oa h,ov h hl,Int.toNat_natCast,nk,nn,cond_true,hw1]
  cases hb:nx (rI (nth p.nY i) 0) 0 (p.Count - 1)
  ·rw[nhl (g:= !false) (x:=true) (fun _=>rfl) (fun h=>by cases h)]
   rfl
  ·obtain⟨x1,x2⟩:=hx hb
   rw[x1,x2]
   rfl
 ·intro n s _
  rw[S1]
  simp only[yY,nS,cond_false]
 ·simp only[List.length_replicate];omega
 ·exact niC k_ _ _ (fun _=>true) p.nY _
def tI (k_:Int→Rows→α) (a:na) (k:Int):α:=
 bif DZ true (wY 1 a.nF k) then
  k_ ((sJ a.nF k).1) ((sJ a.nF k).2)
 else jX
def xb (a:na) (k:Int):Bool:=tI false (fun _ _=>true) a k
def uB (a:na) (k:Int):Int×Rows:=(tI none (fun r0 r1=>some (r0,r1)) a k).getD (0,[])
theorem naz (k_:Int→Rows→α) (a:na) (k:Int) (aI:xb a k=true):tI jX k_ a k=k_ (uB a k).1 (uB a k).2:=by
 exact sa (K:=fun r:Int×Rows=>k_ r.1 r.2) (nM (fun _=>⟨_,rfl,rfl⟩)) aI
def tE (k_:Int→α) (a:na) (k:Int):α:=
 bif DZ true (y7 qT 1 a.nF k) then
  bif decide (sG a.nF k<0) then k_ (-1)
  else k_ (sG a.nF k)
 else jX
def w5 (a:na) (k:Int):Bool:=tE false (fun _=>true) a k
def xM (a:na) (k:Int):Int:=(tE none (fun r0=>some (r0)) a k).getD 0
theorem nak (k_:Int→α) (a:na) (k:Int) (aI:w5 a k=true):tE jX k_ a k=k_ (xM a k):=by
 exact sa (K:=fun r:Int=>k_ r) (nM (pw oH oH)) aI
def uV (k_:Int→Rows→α) (a:nt) (k:Int):α:=
 bif DZ true (wY 1 a.nY k) then
  k_ ((p7 a.nY k).1) ((p7 a.nY k).2)
 else jX
def Nl (a:nt) (k:Int):Bool:=uV false (fun _ _=>true) a k
def yQ (a:nt) (k:Int):Int×Rows:=(uV none (fun r0 r1=>some (r0,r1)) a k).getD (0,[])
theorem ndE (k_:Int→Rows→α) (a:nt) (k:Int) (aI:Nl a k=true):uV jX k_ a k=k_ (yQ a k).1 (yQ a k).2:=by
 exact sa (K:=fun r:Int×Rows=>k_ r.1 r.2) (nM (fun _=>⟨_,rfl,rfl⟩)) aI
def uT (k_:Int→α) (a:nt) (k:Int):α:=
 bif DZ true (y7 pF 1 a.nY k) then
  bif decide (pG a.nY k<0) then k_ (-1)
  else k_ (pG a.nY k)
 else jX
def z_ (a:nt) (k:Int):Bool:=uT false (fun _=>true) a k
def OD (a:nt) (k:Int):Int:=(uT none (fun r0=>some (r0)) a k).getD 0
theorem ndw (k_:Int→α) (a:nt) (k:Int) (aI:z_ a k=true):uT jX k_ a k=k_ (OD a k):=by
 exact sa (K:=fun r:Int=>k_ r) (nM (pw oH oH)) aI
def pZ (k_:Int→Rows→α) (a:nm) (k:Int):α:=
 bif DZ true (wY 1 a.nZ k) then
  k_ ((p7 a.nZ k).1) ((p7 a.nZ k).2)
 else jX
def qI (a:nm) (k:Int):Bool:=pZ false (fun _ _=>true) a k
def rk (a:nm) (k:Int):Int×Rows:=(pZ none (fun r0 r1=>some (r0,r1)) a k).getD (0,[])
theorem naw (k_:Int→Rows→α) (a:nm) (k:Int) (aI:qI a k=true):pZ jX k_ a k=k_ (rk a k).1 (rk a k).2:=by
 exact sa (K:=fun r:Int×Rows=>k_ r.1 r.2) (nM (fun _=>⟨_,rfl,rfl⟩)) aI
def tD (k_:Int→α) (a:nm) (k:Int):α:=
 bif DZ true (y7 pF 1 a.nZ k) then
  bif decide (pG a.nZ k<0) then k_ (-1)
  else k_ (pG a.nZ k)
 else jX
def w3 (a:nm) (k:Int):Bool:=tD false (fun _=>true) a k
def OC (a:nm) (k:Int):Int:=(tD none (fun r0=>some (r0)) a k).getD 0
theorem nai (k_:Int→α) (a:nm) (k:Int) (aI:w3 a k=true):tD jX k_ a k=k_ (OC a k):=by
 exact sa (K:=fun r:Int=>k_ r) (nM (pw oH oH)) aI
def pe (k_:Int→Rows→α) (a:ni) (k:Int):α:=
 bif DZ true (wY 7 a.nr k) then
  k_ ((ye a.nr k).1) ((ye a.nr k).2)
 else jX
def qt (a:ni) (k:Int):Bool:=pe false (fun _ _=>true) a k
def qJ (a:ni) (k:Int):Int×Rows:=(pe none (fun r0 r1=>some (r0,r1)) a k).getD (0,[])
theorem VK (k_:Int→Rows→α) (a:ni) (k:Int) (aI:qt a k=true):pe jX k_ a k=k_ (qJ a k).1 (qJ a k).2:=by
 exact sa (K:=fun r:Int×Rows=>k_ r.1 r.2) (nM (fun _=>⟨_,rfl,rfl⟩)) aI
def r_ (k_:Int→α) (a:ni) (k:Int):α:=
 bif DZ true (y7 Oy 7 a.nr k) then
  bif decide (Ot a.nr k<0) then k_ (-1)
  else k_ (Ot a.nr k)
 else jX
def uc (a:ni) (k:Int):Bool:=r_ false (fun _=>true) a k
def w4 (a:ni) (k:Int):Int:=(r_ none (fun r0=>some (r0)) a k).getD 0
theorem VF (k_:Int→α) (a:ni) (k:Int) (aI:uc a k=true):r_ jX k_ a k=k_ (w4 a k):=by
 exact sa (K:=fun r:Int=>k_ r) (nM (pw oH oH)) aI
def p6 (k_:Int→Rows→α) (a:nz) (k:Int):α:=
 bif DZ true (wY 1 a.Table k) then
  k_ ((p7 a.Table k).1) ((p7 a.Table k).2)
 else jX
def rO (a:nz) (k:Int):Bool:=p6 false (fun _ _=>true) a k
def sW (a:nz) (k:Int):Int×Rows:=(p6 none (fun r0 r1=>some (r0,r1)) a k).getD (0,[])
theorem naH (k_:Int→Rows→α) (a:nz) (k:Int) (aI:rO a k=true):p6 jX k_ a k=k_ (sW a k).1 (sW a k).2:=by
 exact sa (K:=fun r:Int×Rows=>k_ r.1 r.2) (nM (fun _=>⟨_,rfl,rfl⟩)) aI
def tG (k_:Int→α) (a:nz) (k:Int):α:=
 bif DZ true (y7 pF 1 a.Table k) then
  bif decide (pG a.Table k<0) then k_ (-1)
  else k_ (pG a.Table k)
 else jX
def w6 (a:nz) (k:Int):Bool:=tG false (fun _=>true) a k
def OE (a:nz) (k:Int):Int:=(tG none (fun r0=>some (r0)) a k).getD 0
theorem nar (k_:Int→α) (a:nz) (k:Int) (aI:w6 a k=true):tG jX k_ a k=k_ (OE a k):=by
 exact sa (K:=fun r:Int=>k_ r) (nM (pw oH oH)) aI
def sV (k_:Int→Rows→Rows→α) (a:nH) (k:Int):α:=
 let z0:Int×Rows:=wD a.oS ((yQ a.oq k).1)
 bif DZ true (Nl a.oq k) then
  bif DZ true (vB qH NA a.oS ((yQ a.oq k).1)) then
   k_ z0.1 ((yQ a.oq k).2) z0.2
  else jX
 else jX
def vP (a:nH) (k:Int):Bool:=sV false (fun _ _ _=>true) a k
def tJ (a:nH) (k:Int):Int×Rows×Rows:=(sV none (fun r0 r1 r2=>some (r0,r1,r2)) a k).getD (0,[],[])
theorem YN (k_:Int→Rows→Rows→α) (a:nH) (k:Int) (aI:vP a k=true):sV jX k_ a k=k_ (tJ a k).1 (tJ a k).2.1 (tJ a k).2.2:=by
 exact sa (K:=fun r:Int×Rows×Rows=>k_ r.1 r.2.1 r.2.2) (nM (nM (fun _=>⟨_,rfl,rfl⟩))) aI
def sU (k_:Int→α) (a:nH) (k:Int):α:=
 let z0:Int:=RP a.oS (OD a.oq k)
 bif DZ true (z_ a.oq k) then
  bif decide (OD a.oq k<0) then k_ (-1)
  else bif DZ true (WA a.oS (OD a.oq k)) then
    bif decide (z0<0) then k_ (-1)
    else k_ z0
   else jX
 else jX
def vJ (a:nH) (k:Int):Bool:=sU false (fun _=>true) a k
def Nb (a:nH) (k:Int):Int:=(sU none (fun r0=>some (r0)) a k).getD 0
theorem YD (k_:Int→α) (a:nH) (k:Int) (aI:vJ a k=true):sU jX k_ a k=k_ (Nb a k):=by
 exact sa (K:=fun r:Int=>k_ r) (nM (pw oH (nM (pw oH oH)))) aI
def po (k_:Int→Rows→Rows→Rows→α) (a:nj) (k:Int):α:=
 let z0:Int×Rows:=qJ a.Table ((wB a.nP k).1)
 let z1:Int×Rows:=sW a.nG z0.1
 bif DZ true (wY 9 a.nP k) then
  bif DZ true (qt a.Table ((wB a.nP k).1)) then
   bif DZ true (rO a.nG z0.1) then
    k_ z1.1 ((wB a.nP k).2) z0.2 z1.2
   else jX
  else jX
 else jX
def pJ (a:nj) (k:Int):Bool:=po false (fun _ _ _ _=>true) a k
def pg (a:nj) (k:Int):Int×Rows×Rows×Rows:=(po none (fun r0 r1 r2 r3=>some (r0,r1,r2,r3)) a k).getD (0,[],[],[])
theorem W4 (k_:Int→Rows→Rows→Rows→α) (a:nj) (k:Int) (aI:pJ a k=true):po jX k_ a k=k_ (pg a k).1 (pg a k).2.1 (pg a k).2.2.1 (pg a k).2.2.2:=by
 exact sa (K:=fun r:Int×Rows×Rows×Rows=>k_ r.1 r.2.1 r.2.2.1 r.2.2.2) (nM (nM (nM (fun _=>⟨_,rfl,rfl⟩)))) aI
def sr (k_:Int→α) (a:nj) (k:Int):α:=
 let z0:Int:=w4 a.Table (zi a.nP k)
 let z1:Int:=OE a.nG z0
 bif DZ true (y7 Ox 9 a.nP k) then
  bif decide (zi a.nP k<0) then k_ (-1)
  else bif DZ true (uc a.Table (zi a.nP k)) then
    bif decide (z0<0) then k_ (-1)
    else bif DZ true (w6 a.nG z0) then
      bif decide (z1<0) then k_ (-1)
      else k_ z1
     else jX
   else jX
 else jX
def uI (a:nj) (k:Int):Bool:=sr false (fun _=>true) a k
def yu (a:nj) (k:Int):Int:=(sr none (fun r0=>some (r0)) a k).getD 0
theorem WT (k_:Int→α) (a:nj) (k:Int) (aI:uI a k=true):sr jX k_ a k=k_ (yu a k):=by
 exact sa (K:=fun r:Int=>k_ r) (nM (pw oH (nM (pw oH (nM (pw oH oH)))))) aI
def uU (k_:Int→Rows→Rows→Rows→Rows→Rows→Rows→Rows→Rows→Rows→Rows→Rows→Rows→Rows→Rows→Rows→Rows→α) (a:nB) (k:Int):α:=
 let z0:Int×Rows:=wz a.Maps ((uB a.oD k).1)
 let z1:Int×Rows×Rows:=tJ a.Tx z0.1
 let z2:Int:=z1.1
 let z3:Int×Rows:=wC a.Rx z2
 let z4:Int:=z3.1
 let z5:Int×Rows:=wA a.ph z4
 let z6:Int:=z5.1
 let z7:Int×Rows:=yg a.oO z6
 let z8:Int:=z7.1
 let z9:Int×Rows:=zG a.oN z8
 let z10:Int:=z9.1
 let z11:Int×Rows:=rk a.Filter z10
 let z12:Int:=z11.1
 let z13:Int×Rows×Rows×Rows:=pg a.nJ z12
 let z14:Int:=z13.1
 let z15:Int×Rows:=yf a.qD z14
 let z16:Int:=z15.1
 let z17:Int×Rows:=sJ a.zZ z16
 let z18:Int:=z17.1
 let z19:Int×Rows:=p7 a.pb z18
 let z20:Int:=z19.1
 let z21:Int×Rows:=p7 a.pA z20
 bif DZ true (xb a.oD k) then
  bif DZ true (wY 4 a.Maps ((uB a.oD k).1)) then
   bif DZ true (vP a.Tx z0.1) then
    bif DZ true (wY 30 a.Rx z2) then
     bif DZ true (vB qG Nz a.ph z4) then
      bif DZ true (wY 6 a.oO z6) then
       bif DZ true (wY 1 a.oN z8) then
        bif DZ true (qI a.Filter z10) then
         bif DZ true (pJ a.nJ z12) then
          bif DZ true (wY 8 a.qD z14) then
           bif DZ true (wY 1 a.zZ z16) then
            bif DZ true (wY 1 a.pb z18) then
             bif DZ true (wY 1 a.pA z20) then
              k_ z21.1 ((uB a.oD k).2) z0.2 z1.2.1 z1.2.2 z3.2 z5.2 z7.2 z9.2 z11.2 z13.2.1 z13.2.2.1 z13.2.2.2 z15.2 z17.2 z19.2 z21.2
             else jX
            else jX
           else jX
          else jX
         else jX
        else jX
       else jX
      else jX
     else jX
    else jX
   else jX
  else jX
 else jX
def yd (a:nB) (k:Int):Bool:=uU false (fun _ _ _ _ _ _ _ _ _ _ _ _ _ _ _ _ _=>true) a k
def oF (a:nB) (k:Int):Int×Rows×Rows×Rows×Rows×Rows×Rows×Rows×Rows×Rows×Rows×Rows×Rows×Rows×Rows×Rows×Rows:=(uU none (fun r0 r1 r2 r3 r4 r5 r6 r7 r8 r9 r10 r11 r12 r13 r14 r15 r16=>some (r0,r1,r2,r3,r4,r5,r6,r7,r8,r9,r10,r11,r12,r13,r14,r15,r16)) a k).getD (0,[],[],[],[],[],[],[],[],[],[],[],[],[],[],[],[])
theorem ndz (k_:Int→Rows→Rows→Rows→Rows→Rows→Rows→Rows→Rows→Rows→Rows→Rows→Rows→Rows→Rows→Rows→Rows→α) (a:nB) (k:Int) (aI:yd a k=true):uU jX k_ a k=k_ (oF a k).1 (oF a k).2.1 (oF a k).2.2.1 (oF a k).2.2.2.1 (oF a k).2.2.2.2.1 (oF a k).2.2.2.2.2.1 (oF a k).2.2.2.2.2.2.1 (oF a k).2.2.2.2.2.2.2.1 (oF a k).2.2.2.2.2.2.2.2.1 (oF a k).2.2.2.2.2.2.2.2.2.1 (oF a k).2.2.2.2.2.2.2.2.2.2.1 (oF a k).2.2.2.2.2.2.2.2.2.2.2.1 (oF a k).2.2.2.2.2.2.2.2.2.2.2.2.1 (oF a k).2.2.2.2.2.2.2.2.2.2.2.2.2.1 (oF a k).2.2.2.2.2.2.2.2.2.2.2.2.2.2.1 (oF a k).2.2.2.2.2.2.2.2.2.2.2.2.2.2.2.1 (oF a k).2.2.2.2.2.2.2.2.2.2.2.2.2.2.2.2:=by
 exact sa (K:=fun r:Int×Rows×Rows×Rows×Rows×Rows×Rows×Rows×Rows×Rows×Rows×Rows×Rows×Rows×Rows×Rows×Rows=>k_ r.1 r.2.1 r.2.2.1 r.2.2.2.1 r.2.2.2.2.1 r.2.2.2.2.2.1 r.2.2.2.2.2.2.1 r.2.2.2.2.2.2.2.1 r.2.2.2.2.2.2.2.2.1 r.2.2.2.2.2.2.2.2.2.1 r.2.2.2.2.2.2.2.2.2.2.1 r.2.2.2.2.2.2.2.2.2.2.2.1 r.2.2.2.2.2.2.2.2.2.2.2.2.1 r.2.2.2.2.2.2.2.2.2.2.2.2.2.1 r.2.2.2.2.2.2.2.2.2.2.2.2.2.2.1 r.2.2.2.2.2.2.2.2.2.2.2.2.2.2.2.1 r.2.2.2.2.2.2.2.2.2.2.2.2.2.2.2.2) (nM (nM (nM (nM (nM (nM (nM (nM (nM (nM (nM (nM (nM (fun _=>⟨_,rfl,rfl⟩)))))))))))))) aI
def uS (k_:Int→α) (a:nB) (k:Int):α:=
 let z0:Int:=yr a.Maps (xM a.oD k)
 let z1:Int:=Nb a.Tx z0
 let z2:Int:=yt a.Rx z1
 let z3:Int:=RO a.ph z2
 let z4:Int:=Nc a.oO z3
 let z5:Int:=Oq a.oN z4
 let z6:Int:=OC a.Filter z5
 let z7:Int:=yu a.nJ z6
 let z8:Int:=Na a.qD z7
 let z9:Int:=sG a.zZ z8
 let z10:Int:=pG a.pb z9
 let z11:Int:=pG a.pA z10
 bif DZ true (w5 a.oD k) then
  bif decide (xM a.oD k<0) then k_ (-1)
  else bif DZ true (y7 vZ 4 a.Maps (xM a.oD k)) then
    bif decide (z0<0) then k_ (-1)
    else bif DZ true (vJ a.Tx z0) then
      bif decide (z1<0) then k_ (-1)
      else bif DZ true (y7 v7 30 a.Rx z1) then
        bif decide (z2<0) then k_ (-1)
        else bif DZ true (Wz a.ph z2) then
          bif decide (z3<0) then k_ (-1)
          else bif DZ true (y7 yk 6 a.oO z3) then
            bif decide (z4<0) then k_ (-1)
            else bif DZ true (y7 yi 1 a.oN z4) then
              bif decide (z5<0) then k_ (-1)
              else bif DZ true (w3 a.Filter z5) then
                bif decide (z6<0) then k_ (-1)
                else bif DZ true (uI a.nJ z6) then
                  bif decide (z7<0) then k_ (-1)
                  else bif DZ true (y7 yj 8 a.qD z7) then
                    bif decide (z8<0) then k_ (-1)
                    else bif DZ true (y7 qT 1 a.zZ z8) then
                      bif decide (z9<0) then k_ (-1)
                      else bif DZ true (y7 pF 1 a.pb z9) then
                        bif decide (z10<0) then k_ (-1)
                        else bif DZ true (y7 pF 1 a.pA z10) then
                          bif decide (z11<0) then k_ (-1)
                          else k_ z11
                         else jX
                       else jX
                     else jX
                   else jX
                 else jX
               else jX
             else jX
           else jX
         else jX
       else jX
     else jX
   else jX
 else jX
def yb (a:nB) (k:Int):Bool:=uS false (fun _=>true) a k
def RN (a:nB) (k:Int):Int:=(uS none (fun r0=>some (r0)) a k).getD 0
theorem ndt (k_:Int→α) (a:nB) (k:Int) (aI:yb a k=true):uS jX k_ a k=k_ (RN a k):=by
 exact sa (K:=fun r:Int=>k_ r) (nM (pw oH (nM (pw oH (nM (pw oH (nM (pw oH (nM (pw oH (nM (pw oH (nM (pw oH (nM (pw oH (nM (pw oH (nM (pw oH (nM (pw oH (nM (pw oH (nM (pw oH oH)))))))))))))))))))))))))) aI
theorem nkm (x k:Bool):((bif x then k else false)=true)=(x=true∧k=true):=by cases x<;>simp
def neM (a:nB):Bool:=sm a.oD.nF && (sm a.Maps && (sm a.Tx.oq.nY && (nez a.Tx.oS && (sm a.Rx && (naR a.ph && (sm a.oO && (sm a.oN && (sm a.Filter.nZ && (sm a.nJ.nP && (sm a.nJ.Table.nr && (sm a.nJ.nG.Table && (sm a.qD && (sm a.zZ && (sm a.pb && (sm a.pA)))))))))))))))
theorem njZ {a:nB} (h:neM a=true):∃(K:Int) (P0 P1 P2 P3 P4 P5 P6 P7 P8 P9 P10 P11 P12 P13 P14 P15:Rows),yd a 1=true∧oF a 1=(K,P0,P1,P2,P3,P4,P5,P6,P7,P8,P9,P10,P11,P12,P13,P14,P15)∧0≤K∧yb (⟨⟨P0⟩,P1,⟨a.Tx.Ring,⟨a.Tx.oq.oB,a.Tx.oq.nK,a.Tx.oq.Count,P2⟩,P3,a.Tx.Next⟩,P4,P5,P6,P7,⟨a.Filter.Qe,a.Filter.nN,P8⟩,⟨P9,⟨P10⟩,⟨a.nJ.nG.Key,P11⟩⟩,P12,a.sN,P13,P14,P15,a.Counters⟩:nB) 1=true∧RN (⟨⟨P0⟩,P1,⟨a.Tx.Ring,⟨a.Tx.oq.oB,a.Tx.oq.nK,a.Tx.oq.Count,P2⟩,P3,a.Tx.Next⟩,P4,P5,P6,P7,⟨a.Filter.Qe,a.Filter.nN,P8⟩,⟨P9,⟨P10⟩,⟨a.nJ.nG.Key,P11⟩⟩,P12,a.sN,P13,P14,P15,a.Counters⟩:nB) 1=K:=by
 simp only[neM,Bool.and_eq_true] at h
 obtain⟨s0,s1,s2,s3,s4,s5,s6,s7,s8,s9,s10,s11,s12,s13,s14,s15⟩:=h
 have l0:=sX s0
 obtain⟨K0,hK0⟩:∃K:Int,K=1+1*(a.oD.nF.length:Int):=⟨_,rfl⟩
 have o0:wY 1 a.oD.nF 1=true:=tU s0 (by omega) (by omega)
 have e0:sJ a.oD.nF 1=(K0,(sn qT 1 a.oD.nF.length 1)):=by rw[hK0];rfl
 have q0:y7 qT 1 (sn qT 1 a.oD.nF.length 1) 1=true:=yq s0 (by omega) (by omega)
 have g0:sG (sn qT 1 a.oD.nF.length 1) 1=K0:=by rw[hK0];simp only[sG,oQ]
 have b0:0≤K0∧K0≤16777217:=by omega
 have z0:¬K0<0:=by omega
 clear hK0
 have l1:=sX s1
 obtain⟨K1,hK1⟩:∃K:Int,K=K0+4*(a.Maps.length:Int):=⟨_,rfl⟩
 have o1:wY 4 a.Maps K0=true:=tU s1 (by omega) (by omega)
 have e1:wz a.Maps K0=(K1,(sn vZ 4 a.Maps.length K0)):=by rw[hK1];rfl
 have q1:y7 vZ 4 (sn vZ 4 a.Maps.length K0) K0=true:=yq s1 (by omega) (by omega)
 have g1:yr (sn vZ 4 a.Maps.length K0) K0=K1:=by rw[hK1];simp only[yr,oQ]
 have b1:0≤K1∧K1≤83886081:=by omega
 have z1:¬K1<0:=by omega
 clear hK1
 have l2:=sX s2
 obtain⟨K2,hK2⟩:∃K:Int,K=K1+1*(a.Tx.oq.nY.length:Int):=⟨_,rfl⟩
 have o2:wY 1 a.Tx.oq.nY K1=true:=tU s2 (by omega) (by omega)
 have e2:p7 a.Tx.oq.nY K1=(K2,(sn pF 1 a.Tx.oq.nY.length K1)):=by rw[hK2];rfl
 have q2:y7 pF 1 (sn pF 1 a.Tx.oq.nY.length K1) K1=true:=yq s2 (by omega) (by omega)
 have g2:pG (sn pF 1 a.Tx.oq.nY.length K1) K1=K2:=by rw[hK2];simp only[pG,oQ]
 have b2:0≤K2∧K2≤100663297:=by omega
 have z2:¬K2<0:=by omega
 clear hK2
 obtain⟨o3,q3,g3,u3,v3⟩:=njz s3 (k:=K2) (by omega) (by omega)
 obtain⟨K3,hK3⟩:∃K:Int,K=(Nn qH a.Tx.oS K2).2:=⟨_,rfl⟩
 have e3:wD a.Tx.oS K2=(K3,(Nn qH a.Tx.oS K2).1):=by rw[hK3];rfl
 have g3:RP (Nn qH a.Tx.oS K2).1 K2=K3:=by rw[hK3];exact g3
 rw[←hK3] at u3 v3
 have b3:0≤K3∧K3≤281475211591681:=by omega
 have z3:¬K3<0:=by omega
 clear hK3
 have l4:=sX s4
 obtain⟨K4,hK4⟩:∃K:Int,K=K3+30*(a.Rx.length:Int):=⟨_,rfl⟩
 have o4:wY 30 a.Rx K3=true:=tU s4 (by omega) (by omega)
 have e4:wC a.Rx K3=(K4,(sn v7 30 a.Rx.length K3)):=by rw[hK4];rfl
 have q4:y7 v7 30 (sn v7 30 a.Rx.length K3) K3=true:=yq s4 (by omega) (by omega)
 have g4:yt (sn v7 30 a.Rx.length K3) K3=K4:=by rw[hK4];simp only[yt,oQ]
 have b4:0≤K4∧K4≤281475714908161:=by omega
 have z4:¬K4<0:=by omega
 clear hK4
 obtain⟨o5,q5,g5,u5,v5⟩:=njy s5 (k:=K4) (by omega) (by omega)
 obtain⟨K5,hK5⟩:∃K:Int,K=(Nn qG a.ph K4).2:=⟨_,rfl⟩
 have e5:wA a.ph K4=(K5,(Nn qG a.ph K4).1):=by rw[hK5];rfl
 have g5:RO (Nn qG a.ph K4).1 K4=K5:=by rw[hK5];exact g5
 rw[←hK5] at u5 v5
 have b5:0≤K5∧K5≤562950825836545:=by omega
 have z5:¬K5<0:=by omega
 clear hK5
 have l6:=sX s6
 obtain⟨K6,hK6⟩:∃K:Int,K=K5+6*(a.oO.length:Int):=⟨_,rfl⟩
 have o6:wY 6 a.oO K5=true:=tU s6 (by omega) (by omega)
 have e6:yg a.oO K5=(K6,(sn yk 6 a.oO.length K5)):=by rw[hK6];rfl
 have q6:y7 yk 6 (sn yk 6 a.oO.length K5) K5=true:=yq s6 (by omega) (by omega)
 have g6:Nc (sn yk 6 a.oO.length K5) K5=K6:=by rw[hK6];simp only[Nc,oQ]
 have b6:0≤K6∧K6≤562950926499841:=by omega
 have z6:¬K6<0:=by omega
 clear hK6
 have l7:=sX s7
 obtain⟨K7,hK7⟩:∃K:Int,K=K6+1*(a.oN.length:Int):=⟨_,rfl⟩
 have o7:wY 1 a.oN K6=true:=tU s7 (by omega) (by omega)
 have e7:zG a.oN K6=(K7,(sn yi 1 a.oN.length K6)):=by rw[hK7];rfl
 have q7:y7 yi 1 (sn yi 1 a.oN.length K6) K6=true:=yq s7 (by omega) (by omega)
 have g7:Oq (sn yi 1 a.oN.length K6) K6=K7:=by rw[hK7];simp only[Oq,oQ]
 have b7:0≤K7∧K7≤562950943277057:=by omega
 have z7:¬K7<0:=by omega
 clear hK7
 have l8:=sX s8
 obtain⟨K8,hK8⟩:∃K:Int,K=K7+1*(a.Filter.nZ.length:Int):=⟨_,rfl⟩
 have o8:wY 1 a.Filter.nZ K7=true:=tU s8 (by omega) (by omega)
 have e8:p7 a.Filter.nZ K7=(K8,(sn pF 1 a.Filter.nZ.length K7)):=by rw[hK8];rfl
 have q8:y7 pF 1 (sn pF 1 a.Filter.nZ.length K7) K7=true:=yq s8 (by omega) (by omega)
 have g8:pG (sn pF 1 a.Filter.nZ.length K7) K7=K8:=by rw[hK8];simp only[pG,oQ]
 have b8:0≤K8∧K8≤562950960054273:=by omega
 have z8:¬K8<0:=by omega
 clear hK8
 have l9:=sX s9
 obtain⟨K9,hK9⟩:∃K:Int,K=K8+9*(a.nJ.nP.length:Int):=⟨_,rfl⟩
 have o9:wY 9 a.nJ.nP K8=true:=tU s9 (by omega) (by omega)
 have e9:wB a.nJ.nP K8=(K9,(sn Ox 9 a.nJ.nP.length K8)):=by rw[hK9];rfl
 have q9:y7 Ox 9 (sn Ox 9 a.nJ.nP.length K8) K8=true:=yq s9 (by omega) (by omega)
 have g9:zi (sn Ox 9 a.nJ.nP.length K8) K8=K9:=by rw[hK9];simp only[zi,oQ]
 have b9:0≤K9∧K9≤562951111049217:=by omega
 have z9:¬K9<0:=by omega
 clear hK9
 have l10:=sX s10
 obtain⟨K10,nkn⟩:∃K:Int,K=K9+7*(a.nJ.Table.nr.length:Int):=⟨_,rfl⟩
 have o10:wY 7 a.nJ.Table.nr K9=true:=tU s10 (by omega) (by omega)
 have e10:ye a.nJ.Table.nr K9=(K10,(sn Oy 7 a.nJ.Table.nr.length K9)):=by rw[nkn];rfl
 have q10:y7 Oy 7 (sn Oy 7 a.nJ.Table.nr.length K9) K9=true:=yq s10 (by omega) (by omega)
 have g10:Ot (sn Oy 7 a.nJ.Table.nr.length K9) K9=K10:=by rw[nkn];simp only[Ot,oQ]
 have b10:0≤K10∧K10≤562951228489729:=by omega
 have z10:¬K10<0:=by omega
 clear nkn
 have l11:=sX s11
 obtain⟨K11,nko⟩:∃K:Int,K=K10+1*(a.nJ.nG.Table.length:Int):=⟨_,rfl⟩
 have o11:wY 1 a.nJ.nG.Table K10=true:=tU s11 (by omega) (by omega)
 have e11:p7 a.nJ.nG.Table K10=(K11,(sn pF 1 a.nJ.nG.Table.length K10)):=by rw[nko];rfl
 have q11:y7 pF 1 (sn pF 1 a.nJ.nG.Table.length K10) K10=true:=yq s11 (by omega) (by omega)
 have g11:pG (sn pF 1 a.nJ.nG.Table.length K10) K10=K11:=by rw[nko];simp only[pG,oQ]
 have b11:0≤K11∧K11≤562951245266945:=by omega
 have z11:¬K11<0:=by omega
 clear nko
 have l12:=sX s12
 obtain⟨K12,nkp⟩:∃K:Int,K=K11+8*(a.qD.length:Int):=⟨_,rfl⟩
 have o12:wY 8 a.qD K11=true:=tU s12 (by omega) (by omega)
 have e12:yf a.qD K11=(K12,(sn yj 8 a.qD.length K11)):=by rw[nkp];rfl
 have q12:y7 yj 8 (sn yj 8 a.qD.length K11) K11=true:=yq s12 (by omega) (by omega)
 have g12:Na (sn yj 8 a.qD.length K11) K11=K12:=by rw[nkp];simp only[Na,oQ]
 have S6:0≤K12∧K12≤562951379484673:=by omega
 have z12:¬K12<0:=by omega
 clear nkp
 have l13:=sX s13
 obtain⟨K13,nkq⟩:∃K:Int,K=K12+1*(a.zZ.length:Int):=⟨_,rfl⟩
 have o13:wY 1 a.zZ K12=true:=tU s13 (by omega) (by omega)
 have e13:sJ a.zZ K12=(K13,(sn qT 1 a.zZ.length K12)):=by rw[nkq];rfl
 have q13:y7 qT 1 (sn qT 1 a.zZ.length K12) K12=true:=yq s13 (by omega) (by omega)
 have g13:sG (sn qT 1 a.zZ.length K12) K12=K13:=by rw[nkq];simp only[sG,oQ]
 have b13:0≤K13∧K13≤562951396261889:=by omega
 have z13:¬K13<0:=by omega
 clear nkq
 have l14:=sX s14
 obtain⟨K14,nkr⟩:∃K:Int,K=K13+1*(a.pb.length:Int):=⟨_,rfl⟩
 have o14:wY 1 a.pb K13=true:=tU s14 (by omega) (by omega)
 have e14:p7 a.pb K13=(K14,(sn pF 1 a.pb.length K13)):=by rw[nkr];rfl
 have q14:y7 pF 1 (sn pF 1 a.pb.length K13) K13=true:=yq s14 (by omega) (by omega)
 have g14:pG (sn pF 1 a.pb.length K13) K13=K14:=by rw[nkr];simp only[pG,oQ]
 have b14:0≤K14∧K14≤562951413039105:=by omega
 have z14:¬K14<0:=by omega
 clear nkr
 have l15:=sX s15
 obtain⟨K15,nks⟩:∃K:Int,K=K14+1*(a.pA.length:Int):=⟨_,rfl⟩
 have o15:wY 1 a.pA K14=true:=tU s15 (by omega) (by omega)
 have e15:p7 a.pA K14=(K15,(sn pF 1 a.pA.length K14)):=by rw[nks];rfl
 have q15:y7 pF 1 (sn pF 1 a.pA.length K14) K14=true:=yq s15 (by omega) (by omega)
 have g15:pG (sn pF 1 a.pA.length K14) K14=K15:=by rw[nks];simp only[pG,oQ]
 have b15:0≤K15∧K15≤562951429816321:=by omega
 have z15:¬K15<0:=by omega
 clear nks
 refine⟨K15,(sn qT 1 a.oD.nF.length 1),(sn vZ 4 a.Maps.length K0),(sn pF 1 a.Tx.oq.nY.length K1),(Nn qH a.Tx.oS K2).1,(sn v7 30 a.Rx.length K3),(Nn qG a.ph K4).1,(sn yk 6 a.oO.length K5),(sn yi 1 a.oN.length K6),(sn pF 1 a.Filter.nZ.length K7),(sn Ox 9 a.nJ.nP.length K8),(sn Oy 7 a.nJ.Table.nr.length K9),(sn pF 1 a.nJ.nG.Table.length K10),(sn yj 8 a.qD.length K11),(sn qT 1 a.zZ.length K12),(sn pF 1 a.pb.length K13),(sn pF 1 a.pA.length K14), ?_, ?_,by omega, ?_, ?_⟩
 ·simp only[xb,uB,tI,Nl,yQ,uV,qI,rk,pZ,qt,qJ,pe,rO,sW,p6,vP,tJ,sV,pJ,pg,po,yd,oF,uU,Option.getD_some,e0,e1,e2,e3,e4,e5,e6,e7,e8,e9,e10,e11,e12,e13,e14,e15,o0,o1,o2,o3,o4,o5,o6,o7,o8,o9,o10,o11,o12,o13,o14,o15,nk,nn,cond_true]
 ·simp only[xb,uB,tI,Nl,yQ,uV,qI,rk,pZ,qt,qJ,pe,rO,sW,p6,vP,tJ,sV,pJ,pg,po,yd,oF,uU,e0,e1,e2,e3,e4,e5,e6,e7,e8,e9,e10,e11,e12,e13,e14,e15,o0,o1,o2,o3,o4,o5,o6,o7,o8,o9,o10,o11,o12,o13,o14,o15,nk,nn,cond_true,Option.getD_some]
 ·simp only[w5,xM,tE,z_,OD,uT,w3,OC,tD,uc,w4,r_,w6,OE,tG,vJ,Nb,sU,uI,yu,sr,yb,RN,uS,Option.getD_some,g0,g1,g2,g3,g4,g5,g6,g7,g8,g9,g10,g11,g12,g13,g14,g15,q0,q1,q2,q3,q4,q5,q6,q7,q8,q9,q10,q11,q12,q13,q14,q15,z0,z1,z2,z3,z4,z5,z6,z7,z8,z9,z10,z11,z12,z13,z14,z15,decide_false,cond_false,nk,nn,cond_true]
 ·simp only[w5,xM,tE,z_,OD,uT,w3,OC,tD,uc,w4,r_,w6,OE,tG,vJ,Nb,sU,uI,yu,sr,yb,RN,uS,g0,g1,g2,g3,g4,g5,g6,g7,g8,g9,g10,g11,g12,g13,g14,g15,q0,q1,q2,q3,q4,q5,q6,q7,q8,q9,q10,q11,q12,q13,q14,q15,z0,z1,z2,z3,z4,z5,z6,z7,z8,z9,z10,z11,z12,z13,z14,z15,decide_false,cond_false,nk,nn,cond_true,Option.getD_some]
def xC (k_:Bytes→α) (n x:Int) (ox:Int→Rows→α) (i:Int) (su:Rows):α:=
 bif decide (i<n) then
  bif DZ (DZ true (idx i su)) (inl (Int.toNat i) su) then
   ox (nR (i+1)) (List.set su (Int.toNat i) (bP (nth su (Int.toNat i)) 0 [.int x]))
  else jX
 else k_ (toStr su)
def xB (k_:Bytes→α) (N:Nat) (n x:Int) (m_:Nat):Int→Rows→α:=
 Nat.rec (motive:=fun _=>Int→Rows→α) (fun _ _=>jX) (fun _ ox=>xC jX k_ n x ox) m_
theorem Q_ (k_:Bytes→α) (N:Nat) (n x:Int) (m_:Nat):xB jX k_ N n x (m_+1)=xC jX k_ n x (xB jX k_ N n x m_):=rfl
def PX (k_:Bytes→α) (l0:Int→Rows→α) (n x:Int):α:=
 bif DZ true (xZ 1 n n) then
  l0 0 (List.replicate (Int.toNat n) ([.int 0]:List DC))
 else jX
def Wf (k_:Bytes→α) (N:Nat) (n x:Int):α:=PX jX k_ (xB jX k_ N n x N) n x
def xQ (n x:Int):Bool:=bif decide (0≤n) then decide (n≤1000) else false
def ux (n x:Int):Bytes:=List.replicate n.toNat (UInt8.ofNat x.toNat)
theorem Uq (n:Nat) {x:Int} (h0:0≤x) (h1:x≤255):(List.replicate n [DC.int x]:Rows)=ofStr (List.replicate n (UInt8.ofNat x.toNat)):=by
 simp only[ofStr,List.map_replicate,njd h0 h1]
theorem nfZ (k_:Bytes→α) (n x:Int) (h_x:GO (.int .u8) (.int x)) (aI:xQ n x=true):∃N,Wf jX k_ N n x=k_ (ux n x):=by
 obtain⟨h0,h1⟩:=oX.1 aI
 have hx:0≤x∧x≤255:=by
  have h:=h_x
  simp only[GO,DC.int.injEq] at h
  obtain⟨m,rfl,h⟩:=h
  simpa [BB,IntKind.min,IntKind.max,IntKind.signed,IntKind.bits] using h
 refine⟨n.toNat+1, ?_⟩
 unfold Wf PX ux
 have hmk:xZ 1 n n=true:=by simp only[xZ,Bool.and_eq_true,decide_eq_true_eq];omega
 simp only[hmk,nk,cond_true]
 have hr:(List.replicate n.toNat [DC.int 0]:Rows).length=n.toNat:=by simp
 have:=nie (List.replicate n.toNat [DC.int 0]) (xB jX k_ (n.toNat+1) n x) (fun o=>k_ (toStr o)) (fun _=>[.int x]) ?_ ?_
 ·rw[hr] at this
  rw[this,List.map_replicate,Uq _ hx.1 hx.2,Nv]
 ·intro q i o h ho hn
  rw[hr] at h
  rw[Q_]
  have B4:i<o.length:=by rw[ho,hr];exact h
  have en:nth o i=[DC.int 0]:=by
   rw[hn]
   simp only[nth,List.getD_eq_getElem?_getD]
   rw[List.getElem?_replicate_of_lt h]
   rfl
  simp only[xC,decide_eq_true (show (i:Int)<n by omega),oa B4,tf B4,Int.toNat_natCast,nk,cond_true,en,Ti,nT (show -9223372036854775808≤(i:Int)+1 by omega) (show (i:Int)+1≤9223372036854775807 by omega)]
 ·intro q o ho
  rw[hr,Q_]
  simp only[xC,decide_eq_false (show ¬((n.toNat:Nat):Int)<n by omega),cond_false]
def WE (b n:Int):Bytes:=ux n b
def WG (b n:Int):Bool:=xQ n b
def yE (k_:Bytes→α) (b x:Int) (ox:Int→Rows→α) (ot:Int) (su:Rows):α:=
 bif decide (ot<x) then
  bif DZ (DZ true (idx ot su)) (inl (Int.toNat ot) su) then
   ox (nR (ot+1)) (List.set su (Int.toNat ot) (bP (nth su (Int.toNat ot)) 0 [.int b]))
  else jX
 else k_ (toStr su)
def yD (k_:Bytes→α) (N:Nat) (b x:Int) (m_:Nat):Int→Rows→α:=
 Nat.rec (motive:=fun _=>Int→Rows→α) (fun _ _=>jX) (fun _ ox=>yE jX k_ b x ox) m_
theorem RY (k_:Bytes→α) (N:Nat) (b x:Int) (m_:Nat):yD jX k_ N b x (m_+1)=yE jX k_ b x (yD jX k_ N b x m_):=rfl
def Ro (k_:Bytes→α) (l0:Int→Int→Rows→α) (b n:Int):α:=
 bif DZ true (xZ 1 n n) then
  l0 (len (List.replicate (Int.toNat n) ([.int 0]:List DC))) 0 (List.replicate (Int.toNat n) ([.int 0]:List DC))
 else jX
def Xp (k_:Bytes→α) (N:Nat) (b n:Int):α:=Ro jX k_ (fun x=>yD jX k_ N b x N) b n
theorem ngw (k_:Bytes→α) (b n:Int) (h_b:GO (.int .u8) (.int b)) (aI:WG b n=true):∃N,Xp jX k_ N b n=k_ (WE b n):=by
 obtain⟨h0,h1⟩:=oX.1 (show (bif decide (0≤n) then decide (n≤1000) else false)=true from aI)
 have hx:0≤b∧b≤255:=by
  have h:=h_b
  simp only[GO,DC.int.injEq] at h
  obtain⟨m,rfl,h⟩:=h
  simpa [BB,IntKind.min,IntKind.max,IntKind.signed,IntKind.bits] using h
 refine⟨n.toNat+1, ?_⟩
 unfold Xp Ro WE ux
 have hmk:xZ 1 n n=true:=by simp only[xZ,Bool.and_eq_true,decide_eq_true_eq];omega
 simp only[hmk,nk,cond_true]
 have hr:(List.replicate n.toNat [DC.int 0]:Rows).length=n.toNat:=by simp
 have hn:(len (List.replicate n.toNat [DC.int 0]):Int)=n:=by simp only[len,hr];omega
 rw[hn]
 have:=nie (List.replicate n.toNat [DC.int 0]) (yD jX k_ (n.toNat+1) b n) (fun o=>k_ (toStr o)) (fun _=>[.int b]) ?_ ?_
 ·rw[hr] at this
  rw[this,List.map_replicate,Uq _ hx.1 hx.2,Nv]
 ·intro q i o h ho hn
  rw[hr] at h
  rw[RY]
  have B4:i<o.length:=by rw[ho,hr];exact h
  have en:nth o i=[DC.int 0]:=by
   rw[hn]
   simp only[nth,List.getD_eq_getElem?_getD]
   rw[List.getElem?_replicate_of_lt h]
   rfl
  simp only[yE,decide_eq_true (show (i:Int)<n by omega),oa B4,tf B4,Int.toNat_natCast,nk,cond_true,en,Ti,nT (show -9223372036854775808≤(i:Int)+1 by omega) (show (i:Int)+1≤9223372036854775807 by omega)]
 ·intro q o ho
  rw[hr,RY]
  simp only[yE,decide_eq_false (show ¬((n.toNat:Nat):Int)<n by omega),cond_false]
def Rk {α:Type} (k_:Bytes→α) (v:Int):α:=
 bif !(nx v 0 4294967295) then k_ []
 else k_ (toStr ([[.int (IntKind.wrap .u8 (nj8 .i64 v 24))],[.int (IntKind.wrap .u8 (nj8 .i64 v 16))],[.int (IntKind.wrap .u8 (nj8 .i64 v 8))],[.int (IntKind.wrap .u8 v)]]))
def Rd (v:Int):Bytes:=Rk id v
theorem Xk {α:Type} (k_:Bytes→α) (v:Int):Rk k_ v=k_ (Rd v):=by
 exact JR rfl rfl
def Rj {α:Type} (k_:Bytes→α) (v:Int):α:=
 bif !(nx v 0 65535) then k_ []
 else k_ (toStr ([[.int (IntKind.wrap .u8 (nj8 .i64 v 8))],[.int (IntKind.wrap .u8 v)]]))
def zg (v:Int):Bytes:=Rj id v
theorem Xj {α:Type} (k_:Bytes→α) (v:Int):Rj k_ v=k_ (zg v):=by
 exact JR rfl rfl
theorem neF (v:Int):(Rd v).length≤4:=by
 unfold Rd Rk
 cases !(nx v 0 4294967295)<;>simp [toStr]
theorem X6 (v:Int):(zg v).length≤2:=by
 unfold zg Rj
 cases !(nx v 0 65535)<;>simp [toStr]
theorem njg (r:Rows):(toStr r).length=r.length:=by simp [toStr]
def ss (s:Bytes):Bool:=decide (s.length≤4294967296)
def zO {α:Type} (k_:Bool→α) (s:Bytes) (at_ n:Int):α:=
 k_ (bif decide (0≤at_) then bif decide (at_≤len s) then decide (n≤nR ((len s) - at_)) else false else false)
def yc (s:Bytes) (at_ n:Int):Bool:=zO id s at_ n
theorem ncm {α:Type} (k_:Bool→α) (s:Bytes) (at_ n:Int):zO k_ s at_ n=k_ (yc s at_ n):=by
 rfl
theorem within_iff {s:Bytes} {at_ n:Int} (hs:s.length≤9223372036854775807):yc s at_ n=true↔0≤at_∧at_≤len s∧at_+n≤len s:=by
 have hl0:0≤len s:=by simp [len]
 have Gq:len s≤9223372036854775807:=by simp only[len];omega
 unfold yc zO
 by_cases h1:0≤at_
 ·by_cases h2:at_≤len s
  ·rw[nT (by omega) (by omega)]
   simp only[h1,h2,decide_true,cond_true,id,true_and]
   constructor
   ·intro h
    have:=of_decide_eq_true h
    omega
   ·intro h
    exact decide_eq_true (by omega)
  ·simp [h1,h2]
 ·simp [h1]
def UM (k_:Bytes→α) (s:Bytes) (at_:Int) (part:Bytes):α:=
 let z0:Bytes:=NY s (nR (at_+(len part)))
 bif !(yc s at_ (len part)) then k_ s
 else bif DZ (DZ (DZ (DZ true (okH s at_)) (wZ (na2 s at_) part)) (okL s (nR (at_+(len part))))) (wZ ((na2 s at_)++part) z0) then
   k_ (((na2 s at_)++part)++z0)
  else jX
def x9 (s:Bytes) (at_:Int) (part:Bytes):Bool:=decide (s.length≤4294967296) && decide (part.length≤4294967296)
def RL (s:Bytes) (at_:Int) (part:Bytes):Bytes:=bif !(yc s at_ (len part)) then s else s.take at_.toNat++part++s.drop (at_.toNat+part.length)
theorem nec (k_:Bytes→α) (s:Bytes) (at_:Int) (part:Bytes) (aI:x9 s at_ part=true):UM jX k_ s at_ part=k_ (RL s at_ part):=by
 simp only[x9,Bool.and_eq_true,decide_eq_true_eq] at aI
 unfold UM RL
 refine qv (fun _=>rfl) (fun hg=> ?_)
 have hw:=(within_iff (by omega)).1 (show yc s at_ (len part)=true by simpa using hg)
 have e1:nR (at_+len part)=at_+len part:=by simp only[len] at hw ⊢;exact nT (by omega) (by omega)
 have e2:na2 s at_=s.take at_.toNat:=by simp [na2]
 have e3:NY s (at_+len part)=s.drop (at_.toNat+part.length):=by
  simp only[NY,List.take_length,len]
  congr 1
  omega
 have g1:okH s at_=true:=by simp only[len] at hw;simp only[okH,Bool.and_eq_true,decide_eq_true_eq];omega
 have g2:okL s (at_+len part)=true:=by simp only[len] at hw ⊢;simp only[okL,Bool.and_eq_true,decide_eq_true_eq];omega
 have g3:wZ (s.take at_.toNat) part=true:=by simp only[wZ,List.length_take,decide_eq_true_eq];omega
 have g4:wZ (s.take at_.toNat++part) (s.drop (at_.toNat+part.length))=true:=by simp only[wZ,List.length_append,List.length_take,List.length_drop,decide_eq_true_eq];omega
 simp only[e1,e2,e3,g1,g2,g3,g4,nk,cond_true]
theorem X8 (p:Nat→List DC→Bool):∀(l:Rows) (s:Nat),pr p l s=true↔∃i,i<l.length∧p (s+i) (nth l i)=true
 | [],s=>by simp [pr]
 | r::l,s=>by
  unfold pr
  cases hp:p s r
  ·simp only[cond_false,X8 p l (s+1)]
   constructor
   ·rintro ⟨i,h1,h2⟩
    refine⟨i+1,by simp;omega, ?_⟩
    rw[show s+(i+1)=s+1+i by omega]
    exact h2
   ·rintro ⟨i,h1,h2⟩
    cases i with
    | zero=>exfalso;rw[show nth (r::l) 0=r from rfl,Nat.add_zero,hp] at h2;cases h2
    | succ i=>
     refine⟨i,by simp only[List.length_cons] at h1;omega, ?_⟩
     rw[show s+1+i=s+(i+1) by omega]
     exact h2
  ·simp only[cond_true,true_iff]
   exact⟨0,by simp,hp⟩
theorem nhd {p:Nat→List DC→Bool} {l:Rows} {s:Nat} (h:pr p l s=false):∀i,i<l.length→p (s+i) (nth l i)=false:=by
 intro i hi
 cases hp:p (s+i) (nth l i)
 ·rfl
 ·rw[(X8 p l s).2 ⟨i,hi,hp⟩] at h
  cases h
theorem yl (p:Nat→List DC→Bool):∀(l:Rows) (s:Nat),(findIdx p l s= -1∧∀i,i<l.length→p (s+i) (nth l i)=false)∨∃i,i<l.length∧findIdx p l s=((s+i:Nat):Int)∧p (s+i) (nth l i)=true
 | [],s=> .inl ⟨rfl,by simp⟩
 | r::l,s=>by
  unfold findIdx
  cases hp:p s r
  ·rcases yl p l (s+1) with ⟨h1,h2⟩ | ⟨i,h1,h2,h3⟩
   ·refine .inl ⟨h1,fun i hi=> ?_⟩
    cases i with
    | zero=>exact hp
    | succ i=>
     rw[show s+(i+1)=s+1+i by omega]
     exact h2 i (by simp only[List.length_cons] at hi;omega)
   ·refine .inr ⟨i+1,by simp;omega, ?_, ?_⟩
    ·rw[cond_false,h2,show s+(i+1)=s+1+i by omega]
    ·rw[show s+(i+1)=s+1+i by omega]
     exact h3
  ·exact .inr ⟨0,by simp,rfl,hp⟩
theorem na4 {x m:Int} (h0:0≤x) (hm:0<m):0≤Int.tmod x m∧Int.tmod x m<m:=⟨Int.tmod_nonneg _ h0,Int.tmod_lt_of_pos _ hm⟩
theorem nj4 (l:Rows) (i j:Nat) (x:List DC) (hi:i<l.length):nth (l.set i x) j=if j=i then x else nth l j:=by
 simp only[nth,List.getD_eq_getElem?_getD]
 by_cases h:j=i
 ·subst h
  rw[List.getElem?_set_self hi,if_pos rfl]
  rfl
 ·rw[List.getElem?_set_ne (fun e=>h e.symm),if_neg h]
theorem njo (a b:Bool):(bif a then b else false)=true↔a=true∧b=true:=by cases a<;>cases b<;>simp
theorem nhy {p:Nat→List DC→Bool} {l:Rows} (h:∀i,i<l.length→p i (nth l i)=false):pr p l 0=false:=by
 cases ha:pr p l 0
 ·rfl
 ·obtain⟨i,hi,h2⟩:=(X8 p l 0).1 ha
  rw[Nat.zero_add,h i hi] at h2
  cases h2
theorem niU {p:Nat→Bool} :∀ {m i:Nat},vI p m i=false→∀j,i≤j→j<i+m→p j=false
 | 0,_,_,j,h1,h2=>by omega
 | m+1,i,h,j,h1,h2=>by
  rw[vI] at h
  cases hp:p i
  ·rw[hp] at h
   by_cases hj:j=i
   ·rw[hj];exact hp
   ·exact niU h j (by omega) (by omega)
  ·rw[hp] at h;cases h
theorem neH {p:Nat→List DC→Bool} :∀ {l:Rows} {s:Nat},pr p l s=false→∀r∈l,∃i,p i r=false
 | [],_,_,r,h=>by simp at h
 | x::xs,s,h,r,hr=>by
  simp only[pr] at h
  cases hp:p s x
  ·rw[hp] at h
   rcases List.mem_cons.1 hr with rfl | hr
   ·exact⟨s,hp⟩
   ·exact neH h r hr
  ·rw[hp] at h
   cases h
theorem Ov {l:Rows} (h:oZ l=true):len l≤96∧∀r∈l,tT r=false:=by
 unfold oZ at h
 by_cases h9:96<len l
 ·simp [h9] at h
 ·refine⟨by omega,fun r hr=> ?_⟩
  simp only[decide_eq_false h9,cond_false] at h
  cases ha:pr (fun i r=>bif tT r then true else vI (fun j=>bif (rI (nth l j) 0)==(rI r 0) then (rI (nth l j) 1)==(rI r 1) else false) i 0) l 0
  ·obtain⟨i,hi⟩:=neH ha r hr
   cases hb:tT r
   ·rfl
   ·rw[hb] at hi
    cases hi
  ·rw[ha] at h
   cases h
def pgs (l:Rows):Prop:=∀i,i<l.length→∃p:Bytes,nth l i=[.str p]∧p.length=128
theorem nhO {l:Rows} (hw:GO (.sl [.str]) (.sl l)) (h:qe (⟨l⟩:na)=true):pgs l∧l.length≤64:=by
 unfold qe at h
 cases ha:pr (fun _ r=>(len (rS r 0)) != 128) l 0
 ·rw[show pr (fun _ r=>(len (rS r 0)) != 128) (⟨l⟩:na).nF 0=false from ha] at h
  have hl:len l≤64:=of_decide_eq_true h
  refine⟨fun i hi=> ?_,by simp only[len] at hl;omega⟩
  obtain⟨_,hw⟩:=oU hw
  have h1:=nj6 (hw (nth l i) (xu hi))
  have h2:=nhd ha i hi
  refine⟨rS (nth l i) 0,h1.symm, ?_⟩
  have h3:len (rS (nth l i) 0)=128:=by simpa using h2
  simp only[len] at h3
  omega
 ·rw[show pr (fun _ r=>(len (rS r 0)) != 128) (⟨l⟩:na).nF 0=true from ha] at h
  cases h
theorem nkw {l:Rows} (h:pgs l) (hl:l.length≤64):qe (⟨l⟩:na)=true:=by
 unfold qe
 rw[nhy (fun i hi=> ?_)]
 ·exact decide_eq_true (by simp only[len];omega)
 ·obtain⟨p,hp,h2⟩:=h i hi
  show (len (rS (nth l i) 0) != 128)=false
  rw[hp]
  show ((p.length:Int) != 128)=false
  rw[h2]
  rfl
theorem njL (a b:Nat):Int.tdiv (a:Int) (b:Int)=((a / b:Nat):Int):=rfl
theorem njM (a b:Nat):Int.tmod (a:Int) (b:Int)=((a % b:Nat):Int):=rfl
theorem nip (a:Nat):Int.tdiv (a:Int) 128=((a / 128:Nat):Int):=njL a 128
theorem niq (a:Nat):Int.tmod (a:Int) 128=((a % 128:Nat):Int):=njM a 128
def Z0 (k_:Int→α) (nc:Rows) (domain address:Int) (write:Bool):α:=
 let z0:Int:=qV nc domain (nR (Int.tdiv address 128))
 let z1:Bool:=decide (z0<0)
 let z2:Bool:=DZ true (idx z0 nc)
 let z3:List DC:=nth nc (Int.toNat z0)
 bif decide (address<0) then k_ (-1)
 else bif LG z1 true (LG write z2 true) then
   bif bif z1 then true else bif write then !(rB z3 3) else false then k_ (-1)
   else bif z2 then
     k_ (nR ((nR ((rI z3 2)*128))+(Int.tmod address 128)))
    else jX
  else jX
def naP (nc:Rows) (domain address:Int):Int:=qV nc domain (nR (Int.tdiv address 128))
def place (nc:Rows) (domain address:Int) (write:Bool):Int:=
 bif decide (address<0) then -1
 else bif bif decide (naP nc domain address<0) then true else bif write then !(rB (nth nc (Int.toNat (naP nc domain address))) 3) else false then -1
 else nR ((nR ((rI (nth nc (Int.toNat (naP nc domain address))) 2)*128))+(Int.tmod address 128))
theorem YZ (nc:Rows) (domain address:Int):naP nc domain address<0∨∃i:Nat,i<nc.length∧naP nc domain address=(i:Int)∧rI (nth nc i) 0=domain:=by
 unfold naP qV
 rcases yl (fun _ r=>bif (rI r 0)==domain then (rI r 1)==(nR (Int.tdiv address 128)) else false) nc 0 with ⟨h,_⟩ | ⟨i,h1,h2,h3⟩
 ·exact .inl (by rw[h];decide)
 ·refine .inr ⟨i,h1,by rw[h2];simp, ?_⟩
  have:=(njo _ _).1 h3
  simpa using this.1
theorem nhG (k_:Int→α) (nc:Rows) (domain address:Int) (write:Bool) (pC:GO (.sl [.i,.i,.i,.bool]) (.sl nc)):Z0 jX k_ nc domain address write=k_ (place nc domain address write):=by
 obtain⟨hl,_⟩:=oU pC
 unfold Z0 place
 refine JR rfl ?_
 show (bif LG (decide (naP nc domain address<0)) true (LG write (DZ true (idx (naP nc domain address) nc)) true) then _ else jX)=_
 rcases YZ nc domain address with h | ⟨i,h1,h2,_⟩
 ·have e:decide (naP nc domain address<0)=true:=decide_eq_true h
  have e2:∀x,LG true true x=true:=fun x=>by cases x<;>rfl
  have e':decide (qV nc domain (nR (Int.tdiv address 128))<0)=true:=e
  simp only[e,e',e2,cond_true]
 ·have hx:idx (naP nc domain address) nc=true:=by rw[h2];exact oa h1
  have B6:idx (qV nc domain (nR (Int.tdiv address 128))) nc=true:=hx
  simp only[hx,B6,nk,nb9,cond_true]
  exact JR rfl rfl
def Ru {α:Type} (k_:Bool→α) (m:na) (at_ n:Int):α:=
 let z0:Int:=nR ((len m.nF)*128)
 k_ (bif qe m then bif decide (0≤n) then bif decide (n≤z0) then bif decide (0≤at_) then decide (at_≤nR (z0 - n)) else false else false else false else false)
def within (m:na) (at_ n:Int):Bool:=Ru id m at_ n
theorem ngH {α:Type} (k_:Bool→α) (m:na) (at_ n:Int):Ru k_ m at_ n=k_ (within m at_ n):=by
 rfl
def S4 {α:Type} (k_:Bool→α) (m:na) (at_ n:Int):α:=
 let z0:Int:=nR (128*(len m.nF))
 k_ (bif qe m then bif decide (0≤n) then bif decide (0≤at_) then bif decide (at_≤z0) then decide (n≤nR (z0 - at_)) else false else false else false else false)
theorem nco {α:Type} (k_:Bool→α) (m:na) (at_ n:Int) (Ye:jV na.ct m.enc) (U_:GO .i (.int at_)) (h_n:GO .i (.int n)):S4 k_ m at_ n=k_ (within m at_ n):=by
 have hn:=vW h_n
 have ha:=vW U_
 unfold S4 within Ru
 refine congrArg k_ ?_
 show (bif qe m then _ else false)=(bif qe m then _ else false)
 cases hm:qe m
 ·rfl
 ·have GZ:=(nhO (na.Nw Ye) hm).2
  have e1:nR (128*(len m.nF))=128*(m.nF.length:Int):=by simp only[len];exact nT (by omega) (by omega)
  have e2:nR ((len m.nF)*128)=128*(m.nF.length:Int):=by simp only[len];rw[nT (by omega) (by omega)];omega
  simp only[e1,e2,cond_true]
  rw[Bool.eq_iff_iff]
  simp only[njo,decide_eq_true_eq]
  constructor
  ·rintro ⟨h1,h2,h3,h4⟩
   rw[nT (by omega) (by omega)] at h4
   refine⟨h1,by omega,h2, ?_⟩
   rw[nT (by omega) (by omega)]
   omega
  ·rintro ⟨h1,h2,h3,h4⟩
   rw[nT (by omega) (by omega)] at h4
   refine⟨h1,h3,by omega, ?_⟩
   rw[nT (by omega) (by omega)]
   omega
theorem na5 {l:Rows} {a n:Int} (hw:GO (.sl [.str]) (.sl l)) (h:within (⟨l⟩:na) a n=true):pgs l∧l.length≤64∧0≤n∧0≤a∧a+n≤128*l.length:=by
 have h0:(bif qe (⟨l⟩:na) then bif decide (0≤n) then bif decide (n≤nR ((len l)*128)) then bif decide (0≤a) then decide (a≤nR (nR ((len l)*128) - n)) else false else false else false else false)=true:=h
 simp only[njo,decide_eq_true_eq] at h0
 obtain⟨h1,h2,h3,h4,h5⟩:=h0
 obtain⟨p1,p2⟩:=nhO hw h1
 have e:nR ((len l)*128)=128*(l.length:Int):=by simp only[len];rw[nT (by omega) (by omega)];omega
 rw[e] at h3 h5
 rw[nT (by omega) (by omega)] at h5
 exact⟨p1,p2,h2,h4,by omega⟩
theorem njh {l:Rows} {a n:Nat} (hp:pgs l) (hl:l.length≤64) (h:a+n≤128*l.length):within (⟨l⟩:na) (a:Int) (n:Int)=true:=by
 have e:nR ((len l)*128)=128*(l.length:Int):=by simp only[len];rw[nT (by omega) (by omega)];omega
 have h0:(bif qe (⟨l⟩:na) then bif decide (0≤(n:Int)) then bif decide ((n:Int)≤nR ((len l)*128)) then bif decide (0≤(a:Int)) then decide ((a:Int)≤nR (nR ((len l)*128) - (n:Int))) else false else false else false else false)=true:=by
  simp only[njo,decide_eq_true_eq]
  refine⟨nkw hp hl,by omega,by rw[e];omega,by omega, ?_⟩
  rw[e,nT (by omega) (by omega)]
  omega
 exact h0
def Tj (p:Bytes) (k:Nat) (s:Bytes):Bytes:=p.take k++(s.take (128 - k)++p.drop (k+min s.length (128 - k)))
def zP (l:Rows) (a:Nat) (s:Bytes):Rows:=l.set (a / 128) [.str (Tj (rS (nth l (a / 128)) 0) (a % 128) s)]
def ncu:Nat→Nat→Bytes→Rows→Rows
 | 0,_,_,l=>l
 | m+1,a,s,l=>bif decide (0<s.length) then ncu m (a+min s.length (128 - a % 128)) (s.drop (min s.length (128 - a % 128))) (zP l a s) else l
theorem niR {p:Bytes} {k:Nat} {s:Bytes} (h:p.length=128) (hk:k≤128):(Tj p k s).length=128:=by
 simp only[Tj,List.length_append,List.length_take,List.length_drop]
 omega
theorem Zi {l:Rows} {a:Nat} {s:Bytes} (h:pgs l) (ha:a / 128<l.length):pgs (zP l a s)∧(zP l a s).length=l.length:=by
 refine⟨fun i hi=> ?_,by simp [zP]⟩
 unfold zP at hi ⊢
 rw[List.length_set] at hi
 rw[nj4 l (a / 128) i _ ha]
 by_cases he:i=a / 128
 ·rw[if_pos he]
  obtain⟨p,hp,h2⟩:=h (a / 128) ha
  refine⟨_,rfl, ?_⟩
  rw[hp]
  exact niR h2 (by omega)
 ·rw[if_neg he]
  exact h i hi
theorem niw:∀(m a:Nat) (s:Bytes) (l:Rows),pgs l→a+s.length≤128*l.length→pgs (ncu m a s l)∧(ncu m a s l).length=l.length
 | 0,_,_,_,h,_=>⟨h,rfl⟩
 | m+1,a,s,l,h,ha=>by
  unfold ncu
  by_cases hs:0<s.length
  ·rw[decide_eq_true hs,cond_true]
   have h1:=Zi (a:=a) (s:=s) h (by omega)
   have h2:=niw m (a+min s.length (128 - a % 128)) (s.drop (min s.length (128 - a % 128))) (zP l a s) h1.1 (by rw[h1.2,List.length_drop];omega)
   exact⟨h2.1,h2.2.trans h1.2⟩
  ·rw[decide_eq_false hs,cond_false]
   exact⟨h,rfl⟩
def sq (k_:na→Bool→α) (ox:Int→Bytes→Rows→α) (sL:Int) (rP:Bytes) (pB:Rows):α:=
 let z0:Bool:=DZ (DZ true (idx (nR (Int.tdiv sL 128)) pB)) (inl (Int.toNat (nR (Int.tdiv sL 128))) pB)
 let z1:List DC:=nth pB (Int.toNat (nR (Int.tdiv sL 128)))
 let z2:Rows:=ofStr (rS z1 0)
 let z3:Int:=cpN rP z2 (Int.toNat (Int.tmod sL 128))
 bif decide (0<len rP) then
  bif z0 then
   bif DZ (DZ true ((okL z2 (Int.tmod sL 128)) && (decide (0<List.length z2)))) (decide (Int.toNat (Int.tmod sL 128)≤List.length z2)) then
    bif z0 then
     bif DZ true (okL rP z3) then
      ox (nR (sL+z3)) (NY rP z3) (List.set pB (Int.toNat (nR (Int.tdiv sL 128))) (bP z1 0 [.str (toStr (cpR rP z2 (Int.toNat (Int.tmod sL 128))))]))
     else jX
    else jX
   else jX
  else jX
 else k_ (⟨pB⟩:na) true
def tY (k_:na→Bool→α) (N m_:Nat):Int→Bytes→Rows→α:=
 Nat.rec (motive:=fun _=>Int→Bytes→Rows→α) (fun _ _ _=>jX) (fun _ ox=>sq jX k_ ox) m_
theorem y9 (k_:na→Bool→α) (N m_:Nat):tY jX k_ N (m_+1)=sq jX k_ (tY jX k_ N m_):=rfl
def xO (k_:na→Bool→α) (l0:Int→Bytes→Rows→α) (m:na) (at_:Int) (s:Bytes):α:=
 bif DZ true (xc m) then
  bif !(within m at_ (len s)) then k_ (qY m) false
  else l0 at_ s ((qY m).nF)
 else jX
def OR (k_:na→Bool→α) (N:Nat) (m:na) (at_:Int) (s:Bytes):α:=xO jX k_ (tY jX k_ N N) m at_ s
def qF (m:na) (at_:Int) (s:Bytes):Bool:=sm m.nF
def pc (m:na) (at_:Int) (s:Bytes):na×Bool:=bif !(within m at_ (len s)) then (m,false) else (⟨ncu s.length at_.toNat s m.nF⟩,true)
theorem nhr (a b:Rows):toStr (a++b)=toStr a++toStr b:=by simp [toStr]
theorem niK (s:Bytes) (n:Nat):(ofStr s).take n=ofStr (s.take n):=by simp [ofStr,List.map_take]
theorem niJ (s:Bytes) (n:Nat):(ofStr s).drop n=ofStr (s.drop n):=by simp [ofStr,List.map_drop]
theorem njr {p s:Bytes} {k:Nat} (h:p.length=128):toStr (cpR s (ofStr p) k)=Tj p k s:=by
 unfold cpR Tj
 rw[yR,h,nhr,nhr,niK,niJ,Nv,Nv,Nv]
theorem Ym (k_:na→Bool→α) (m:na) (at_:Int) (s:Bytes) (Ye:jV na.ct m.enc) (aI:qF m at_ s=true):∃N,OR jX k_ N m at_ s=k_ (pc m at_ s).1 (pc m at_ s).2:=by
 have hp0:GO (.sl [.str]) (.sl m.nF):=na.Nw Ye
 have IZ:xc m=true:=aI
 refine⟨s.length+1, ?_⟩
 unfold OR xO pc
 rw[show qY m=m from rfl]
 simp only[IZ,nk,cond_true]
 cases hw:within m at_ (len s)
 ·rfl
 ·obtain⟨p1,p2,p3,p4,p5⟩:=na5 hp0 hw
  obtain⟨a,rfl⟩:=Int.eq_ofNat_of_zero_le p4
  simp only[Bool.not_true,cond_false,Int.toNat_natCast]
  have key:∀(q n a:Nat) (s:Bytes) (l:Rows),s.length≤q→q<n→pgs l→l.length≤64→a+s.length≤128*l.length→tY jX k_ (s.length+1) n (a:Int) s l=k_ (⟨ncu q a s l⟩:na) true:=by
   intro q
   induction q with
   | zero=>
    intro n a s l h1 h2 h3 h4 h5
    obtain⟨n,rfl⟩:∃q,n=q+1:=⟨n - 1,by omega⟩
    have:s=[]:=List.length_eq_zero_iff.1 (by omega)
    subst this
    rw[y9]
    simp only[sq,show decide (0<len ([]:Bytes))=false by decide,cond_false,ncu]
   | succ q ih=>
    intro n a s l h1 h2 h3 h4 h5
    obtain⟨n,rfl⟩:∃q,n=q+1:=⟨n - 1,by omega⟩
    rw[y9]
    by_cases hs:0<s.length
    ·have hd:decide (0<len s)=true:=decide_eq_true (by simp only[len];omega)
     have hpg:a / 128<l.length:=by omega
     obtain⟨p,e1,e2⟩:=h3 (a / 128) hpg
     have w1:nR (((a / 128:Nat):Int))=((a / 128:Nat):Int):=nT (by omega) (by omega)
     have c1:cpN s (ofStr p) (a % 128)=((min s.length (128 - a % 128):Nat):Int):=by unfold cpN;rw[yR,e2]
     have w2:nR ((a:Int)+((min s.length (128 - a % 128):Nat):Int))=((a+min s.length (128 - a % 128):Nat):Int):=by rw[nT (by omega) (by omega)];omega
     have g1:okL (ofStr p) (((a % 128:Nat)):Int)=true:=by simp only[okL,yR,e2,Bool.and_eq_true,decide_eq_true_eq];omega
     have g2:decide (0<List.length (ofStr p))=true:=decide_eq_true (by rw[yR];omega)
     have g3:decide (a % 128≤List.length (ofStr p))=true:=decide_eq_true (by rw[yR];omega)
     have g4:okL s ((min s.length (128 - a % 128):Nat):Int)=true:=by simp only[okL,Bool.and_eq_true,decide_eq_true_eq];omega
     have g5:NY s ((min s.length (128 - a % 128):Nat):Int)=s.drop (min s.length (128 - a % 128)):=by simp [NY]
     have st:=Zi (a:=a) (s:=s) h3 hpg
     have this:=ih n (a+min s.length (128 - a % 128)) (s.drop (min s.length (128 - a % 128))) (zP l a s) (by rw[List.length_drop];omega) (by omega) st.1 (by rw[st.2];exact h4) (by rw[st.2,List.length_drop];omega)
     have e5:zP l a s=l.set (a / 128) [.str (Tj p (a % 128) s)]:=by unfold zP;rw[e1];rfl
     unfold ncu
     rw[decide_eq_true hs,cond_true]
     rw[e5] at this ⊢
     simp only[sq,hd,nip,niq,w1,oa hpg,tf hpg,Int.toNat_natCast,e1,niM,c1,w2,g1,g2,g3,g4,g5,njr e2,Ti,Bool.and_self,nk,nn,cond_true]
     exact this
    ·have:s=[]:=List.length_eq_zero_iff.1 (by omega)
     subst this
     simp only[sq,show decide (0<len ([]:Bytes))=false by decide,cond_false]
     rfl
  exact key s.length (s.length+1) a s m.nF (Nat.le_refl _) (by omega) p1 p2 (by simp only[len] at p5;omega)
theorem ngj {l:Rows} (h:pgs l) (hl:l.length≤64):GO (.sl [.str]) (.sl l):=by
 simp only[GO]
 refine⟨l,rfl,by rw[WC];omega,fun r hr=> ?_⟩
 obtain⟨i,hi,rfl⟩:=List.getElem_of_mem hr
 obtain⟨p,hp,h2⟩:=h i hi
 have e:l[i]=nth l i:=by simp [nth,hi]
 rw[e,hp]
 exact niT (by simp only[GO];exact⟨p,rfl,by rw[WC];omega⟩) nhS
theorem Tl {l:Rows} {a:Int} {s:Bytes} (h:pgs l) (hl:l.length≤64):pgs (pc (⟨l⟩:na) a s).1.nF∧(pc (⟨l⟩:na) a s).1.nF.length=l.length:=by
 unfold pc
 cases hw:within (⟨l⟩:na) a (len s)
 ·exact⟨h,rfl⟩
 ·obtain⟨_,_,p3,p4,p5⟩:=na5 (ngj h hl) hw
  exact niw s.length a.toNat s l h (by simp only[len] at p5;omega)
def Ow (Q:Nat→Prop):Rows→Nat→Prop
 | [],n=>n=0
 | r::rs,n=>∃p k:Nat,r=[.int (p:Int),.int (k:Int)]∧1≤k∧k≤n∧p % 128+k≤128∧Q (p / 128)∧Ow Q rs (n - k)
def Y2 (nc:Rows) (domain:Int) (write:Bool) (ou:Rows):Nat→Int→Int→Rows→Rows×Bool
 | 0,_,_,o=>(o,true)
 | m+1,a,n,o=>bif decide (0<n) then
   bif bif decide (place nc domain a write<0) then true else !(within (⟨ou⟩:na) (place nc domain a write) (wU n (nR (128 - Int.tmod a 128)))) then ([],false)
   else bif bif decide (nR (a+wU n (nR (128 - Int.tmod a 128)))<0) then decide (0<nR (n - wU n (nR (128 - Int.tmod a 128)))) else false then ([],false)
   else Y2 nc domain write ou m (nR (a+wU n (nR (128 - Int.tmod a 128)))) (nR (n - wU n (nR (128 - Int.tmod a 128)))) (o++[[.int (place nc domain a write),.int (wU n (nR (128 - Int.tmod a 128)))]])
  else (o,true)
theorem nfH {a n:Int} (ha:0≤a) (hn:0<n) (h4:n≤4096):1≤wU n (nR (128 - Int.tmod a 128))∧wU n (nR (128 - Int.tmod a 128))≤n∧Int.tmod a 128+wU n (nR (128 - Int.tmod a 128))≤128∧nR (n - wU n (nR (128 - Int.tmod a 128)))=n - wU n (nR (128 - Int.tmod a 128)):=by
 have r:=na4 (x:=a) (m:=128) ha (by omega)
 rw[nT (n:=128 - Int.tmod a 128) (by omega) (by omega)]
 unfold wU
 split
 ·refine⟨by omega,by omega,by omega,nT (by omega) (by omega)⟩
 ·refine⟨by omega,by omega,by omega,nT (by omega) (by omega)⟩
def rl (nc:Rows) (m:na) (domain at_ n:Int) (write:Bool):Rows×Bool:=
 bif bif !(oZ nc) then true else bif !(qe m) then true else !(nx n 0 4096) then ([],false)
 else bif n==0 then ([],true)
 else bif decide (at_<0) then ([],false)
 else Y2 nc domain write m.nF (n.toNat+1) at_ n []
def yG (k_:Rows→Bool→α) (nc:Rows) (domain:Int) (write:Bool) (tX:Rows) (ox:Int→Int→Rows→α) (sL n_1:Int) (su:Rows):α:=
 let z0:Int:=wU n_1 (nR (128 - (Int.tmod sL 128)))
 let z1:Int:=nR (sL+z0)
 let z2:Int:=nR (n_1 - z0)
 bif decide (0<n_1) then
  bif bif decide (place nc domain sL write<0) then true else !(within (⟨tX⟩:na) (place nc domain sL write) z0) then k_ [] false
  else bif DZ true (pK 16 su ([[.int (place nc domain sL write),.int z0]])) then
    bif bif decide (z1<0) then decide (0<z2) else false then k_ [] false
    else ox z1 z2 (su++([[.int (place nc domain sL write),.int z0]]))
   else jX
 else k_ su true
def yF (k_:Rows→Bool→α) (N:Nat) (nc:Rows) (domain:Int) (write:Bool) (tX:Rows) (m_:Nat):Int→Int→Rows→α:=
 Nat.rec (motive:=fun _=>Int→Int→Rows→α) (fun _ _ _=>jX) (fun _ ox=>yG jX k_ nc domain write tX ox) m_
theorem nbm (k_:Rows→Bool→α) (N:Nat) (nc:Rows) (domain:Int) (write:Bool) (tX:Rows) (m_:Nat):yF jX k_ N nc domain write tX (m_+1)=yG jX k_ nc domain write tX (yF jX k_ N nc domain write tX m_):=rfl
def Rq {α:Type} (jX:α) (k_:Rows→Bool→α) (l0:Rows→Int→Int→Rows→α) (nc:Rows) (m:na) (domain at_ n:Int) (write:Bool):α:=
 bif bif !(oZ nc) then true else bif !(qe m) then true else !(nx n 0 4096) then k_ [] false
 else bif n==0 then k_ [] true
 else bif decide (at_<0) then k_ [] false
 else l0 m.nF at_ n []
def Xu (k_:Rows→Bool→α) (N:Nat) (nc:Rows) (m:na) (domain at_ n:Int) (write:Bool):α:=Rq jX k_ (fun tX=>yF jX k_ N nc domain write tX N) nc m domain at_ n write
theorem ngy (k_:Rows→Bool→α) (nc:Rows) (m:na) (domain at_ n:Int) (write:Bool) (U_:GO .i (.int at_)):∃N,Xu jX k_ N nc m domain at_ n write=k_ (rl nc m domain at_ n write).1 (rl nc m domain at_ n write).2:=by
 refine⟨n.toNat+2, ?_⟩
 unfold Xu Rq rl
 refine qv (K:=fun r:Rows×Bool=>k_ r.1 r.2) (fun _=>rfl) (fun hg=>qv (K:=fun r:Rows×Bool=>k_ r.1 r.2) (fun _=>rfl) (fun Hh=>qv (K:=fun r:Rows×Bool=>k_ r.1 r.2) (fun _=>rfl) (fun ha=> ?_)))
 have hb:0≤n∧n≤4096:=by
  cases hc:nx n 0 4096
  ·rw[hc] at hg
   cases h1:oZ nc<;>cases h2:qe m<;>rw[h1,h2] at hg<;>cases hg
  ·exact oX.1 hc
 have ha:=of_decide_eq_false ha
 have FF:=vW U_
 have key:∀(q N':Nat) (a n:Int) (o:Rows),n<q→q≤N'→0≤n→n≤4096→a≤9223372036854775807→(0<n→0≤a)→o.length+n.toNat≤5000→∀M,yF jX k_ M nc domain write m.nF N' a n o=k_ (Y2 nc domain write m.nF q a n o).1 (Y2 nc domain write m.nF q a n o).2:=by
  intro q
  induction q with
  | zero=>intro N' a n o h1 h2 h3;omega
  | succ q ih=>
   intro N' a n o h1 h2 h3 h4 h7 h5 h6 M
   obtain⟨N',rfl⟩:∃p,N'=p+1:=⟨N' - 1,by omega⟩
   rw[nbm]
   by_cases hn:0<n
   ·obtain⟨r1,r2,r3,r4⟩:=nfH (h5 hn) hn h4
    have hr:∀x:List DC,pK 16 o [x]=true:=fun x=>sb (by simp only[List.length_cons,List.length_nil];omega) (by omega)
    unfold Y2
    simp only[yG,decide_eq_true hn,hr,nk,cond_true]
    refine qv (K:=fun r:Rows×Bool=>k_ r.1 r.2) (fun _=>rfl) (fun _=>qv (K:=fun r:Rows×Bool=>k_ r.1 r.2) (fun _=>rfl) (fun hov=> ?_))
    rw[r4] at hov ⊢
    refine ih N' _ _ _ (by omega) (by omega) (by omega) (by omega) (njN _) (fun hp=> ?_) (by simp only[List.length_append,List.length_cons,List.length_nil];omega) M
    rw[decide_eq_true hp] at hov
    have hov:decide (nR (a+wU n (nR (128 - Int.tmod a 128)))<0)=false:=by
     cases hd:decide (nR (a+wU n (nR (128 - Int.tmod a 128)))<0)
     ·rfl
     ·rw[hd] at hov;cases hov
    have:=of_decide_eq_false hov
    omega
   ·unfold Y2
    simp only[yG,decide_eq_false hn,cond_false]
 exact key (n.toNat+1) (n.toNat+2) at_ n [] (by omega) (by omega) hb.1 hb.2 FF.2 (fun _=>by omega) (by simp only[List.length_nil];omega) _
theorem Ow.len {Q:Nat→Prop} :∀ {l:Rows} {n:Nat},Ow Q l n→l.length≤n
 | [],_,_=>Nat.zero_le _
 | r::rs,n,⟨p,k,_,h1,h2,_,_,h3⟩=>by
  have:=h3.len
  simp only[List.length_cons]
  omega
theorem Ow.imp {Q Q':Nat→Prop} (h:∀i,Q i→Q' i):∀ {l:Rows} {n:Nat},Ow Q l n→Ow Q' l n
 | [],_,h0=>h0
 | r::rs,n,⟨p,k,e,h1,h2,h3,h4,h5⟩=>⟨p,k,e,h1,h2,h3,h _ h4,h5.imp h⟩
theorem nii {nc:Rows} (hM:oZ nc=true) {domain a:Int} {write:Bool} (ha:0≤a):place nc domain a write<0∨∃i:Nat,i<nc.length∧rI (nth nc i) 0=domain∧0≤rI (nth nc i) 2∧rI (nth nc i) 2≤63∧
  place nc domain a write=rI (nth nc i) 2*128+Int.tmod a 128:=by
 unfold place
 rw[decide_eq_false (show ¬a<0 by omega),cond_false]
 rcases YZ nc domain a with h | ⟨i,h1,h2,h3⟩
 ·rw[decide_eq_true h]
  exact .inl (show (-1:Int)<0 by decide)
 ·rw[h2,Int.toNat_natCast]
  cases (bif decide ((i:Int)<0) then true else bif write then !(rB (nth nc i) 3) else false)
  ·have hb:=(Ov hM).2 (nth nc i) (xu h1)
   have hp:nx (rI (nth nc i) 2) 0 63=true:=by
    unfold tT at hb
    cases h4:nx (rI (nth nc i) 2) 0 63
    ·rw[h4] at hb
     revert hb
     cases nx (rI (nth nc i) 0) 0 7<;>cases nx (rI (nth nc i) 1) 0 1023<;>simp
    ·rfl
   have hp:=oX.1 hp
   have r:=na4 (x:=a) (m:=128) ha (by omega)
   refine .inr ⟨i,h1,h3,hp.1,hp.2, ?_⟩
   rw[cond_false,nT (n:=rI (nth nc i) 2*128) (by omega) (by omega),nT (by omega) (by omega)]
  ·exact .inl (show (-1:Int)<0 by decide)
theorem nhq {nc ou:Rows} (hM:oZ nc=true) {domain:Int} {write:Bool} :∀(q:Nat) (a n:Int) (o:Rows),n<q→0≤n→n≤4096→(0<n→0≤a)→(Y2 nc domain write ou q a n o).2=true→
  ∃rs,(Y2 nc domain write ou q a n o).1=o++rs∧Ow (fun p=>∃i:Nat,i<nc.length∧rI (nth nc i) 0=domain∧rI (nth nc i) 2=(p:Int)) rs n.toNat
 | 0,a,n,o,h1,h2,_,_,_=>by omega
 | q+1,a,n,o,h1,h2,h3,h4,h5=>by
  unfold Y2 at h5 ⊢
  by_cases hn:0<n
  ·rw[decide_eq_true hn,cond_true] at h5 ⊢
   have ha:=h4 hn
   obtain⟨r1,r2,r3,r4⟩:=nfH ha hn h3
   cases hc:(bif decide (place nc domain a write<0) then true else !(within (⟨ou⟩:na) (place nc domain a write) (wU n (nR (128 - Int.tmod a 128)))))
   ·rw[hc,cond_false] at h5
    rw[cond_false]
    cases hov:(bif decide (nR (a+wU n (nR (128 - Int.tmod a 128)))<0) then decide (0<nR (n - wU n (nR (128 - Int.tmod a 128)))) else false)
    ·rw[hov,cond_false] at h5
     rw[cond_false]
     rw[r4] at h5 hov ⊢
     obtain⟨rs,e1,e2⟩:=nhq hM q _ _ _ (by omega) (by omega) (by omega) (fun hp=>by
      rw[decide_eq_true hp] at hov
      have hov:decide (nR (a+wU n (nR (128 - Int.tmod a 128)))<0)=false:=by
       cases hd:decide (nR (a+wU n (nR (128 - Int.tmod a 128)))<0)
       ·rfl
       ·rw[hd] at hov;cases hov
      have:=of_decide_eq_false hov
      omega) h5
     refine⟨[.int (place nc domain a write),.int (wU n (nR (128 - Int.tmod a 128)))]::rs,by rw[e1,List.append_assoc];rfl, ?_⟩
     rcases nii hM (domain:=domain) (write:=write) ha with nkJ | ⟨i,i1,i2,i3,i4,i5⟩
     ·rw[decide_eq_true nkJ] at hc
      cases hc
     ·have r:=na4 (x:=a) (m:=128) ha (by omega)
      have hdiv:(place nc domain a write).toNat / 128=(rI (nth nc i) 2).toNat∧(place nc domain a write).toNat % 128=(Int.tmod a 128).toNat:=by
       rw[i5]
       omega
      refine⟨(place nc domain a write).toNat,(wU n (nR (128 - Int.tmod a 128))).toNat, ?_,by omega,by omega,by rw[hdiv.2];omega,⟨i,i1,i2,by rw[hdiv.1];omega⟩, ?_⟩
      ·rw[Int.toNat_of_nonneg (by rw[i5];omega),Int.toNat_of_nonneg (by omega)]
      ·have:(n - wU n (nR (128 - Int.tmod a 128))).toNat=n.toNat - (wU n (nR (128 - Int.tmod a 128))).toNat:=by omega
       rw[←this]
       exact e2
    ·rw[hov] at h5
     cases h5
   ·rw[hc] at h5
    cases h5
  ·rw[decide_eq_false hn,cond_false] at h5 ⊢
   refine⟨[],by simp, ?_⟩
   show n.toNat=0
   omega
theorem njI {nc:Rows} {m:na} {domain at_ n:Int} {write:Bool} (hw:GO (.sl [.str]) (.sl m.nF)) (h:(rl nc m domain at_ n write).2=true):
  pgs m.nF∧m.nF.length≤64∧Ow (fun p=>∃i:Nat,i<nc.length∧rI (nth nc i) 0=domain∧rI (nth nc i) 2=(p:Int)) (rl nc m domain at_ n write).1 n.toNat∧n≤4096:=by
 unfold rl at h ⊢
 cases hM:oZ nc
 ·rw[hM] at h;cases h
 cases hm:qe m
 ·rw[hM,hm] at h;cases h
 cases hb:nx n 0 4096
 ·rw[hM,hm,hb] at h;cases h
 have hb:=oX.1 hb
 obtain⟨p1,p2⟩:=nhO hw hm
 rw[hM,hm,show nx n 0 4096=true from oX.2 hb] at h
 simp only[Bool.not_true,cond_false] at h ⊢
 refine⟨p1,p2, ?_,hb.2⟩
 by_cases h0:n=0
 ·subst h0
  exact rfl
 ·rw[show (n==0)=false by simpa using h0,cond_false] at h ⊢
  by_cases ha:at_<0
  ·rw[decide_eq_true ha] at h;cases h
  ·rw[decide_eq_false ha,cond_false] at h ⊢
   obtain⟨rs,e1,e2⟩:=nhq hM (n.toNat+1) at_ n [] (by omega) hb.1 hb.2 (fun _=>by omega) h
   rw[e1]
   exact e2
theorem ncC {nc:Rows} {m:na} {domain at_ n:Int} {write:Bool} (hw:GO (.sl [.str]) (.sl m.nF)) (h:(rl nc m domain at_ n write).2=true):
  pgs m.nF∧m.nF.length≤64∧Ow (fun _=>True) (rl nc m domain at_ n write).1 n.toNat∧(rl nc m domain at_ n write).1.length≤5000:=by
 obtain⟨a,b,c,d⟩:=njI hw h
 have:=c.len
 exact⟨a,b,c.imp (fun _ _=>trivial),by omega⟩
def ng5:Rows→Bytes→Rows→Rows
 | [],_,l=>l
 | r::rs,s,l=>ng5 rs (s.drop (Int.toNat (rI r 1))) (pc (⟨l⟩:na) (rI r 0) (s.take (Int.toNat (rI r 1)))).1.nF
def QB (k_:na→Bool→α) (x:Int) (oA:Rows) (ox:Bytes→Int→Rows→α) (rP:Bytes) (ot:Int) (pB:Rows):α:=
 let z0:Bytes:=na2 rP (rI (nth oA (Int.toNat ot)) 1)
 bif decide (ot<x) then
  bif DZ (DZ true (idx ot oA)) (inl (Int.toNat ot) oA) then
   bif DZ (DZ true (okH rP (rI (nth oA (Int.toNat ot)) 1))) (qF (⟨pB⟩:na) (rI (nth oA (Int.toNat ot)) 0) z0) then
    bif DZ true (okL rP (rI (nth oA (Int.toNat ot)) 1)) then
     ox (NY rP (rI (nth oA (Int.toNat ot)) 1)) (nR (ot+1)) (((pc (⟨pB⟩:na) (rI (nth oA (Int.toNat ot)) 0) z0).1).nF)
    else jX
   else jX
  else jX
 else k_ (⟨pB⟩:na) true
def QA (k_:na→Bool→α) (N:Nat) (x:Int) (oA:Rows) (m_:Nat):Bytes→Int→Rows→α:=
 Nat.rec (motive:=fun _=>Bytes→Int→Rows→α) (fun _ _ _=>jX) (fun _ ox=>QB jX k_ x oA ox) m_
theorem Xm (k_:na→Bool→α) (N:Nat) (x:Int) (oA:Rows) (m_:Nat):QA jX k_ N x oA (m_+1)=QB jX k_ x oA (QA jX k_ N x oA m_):=rfl
def Yt (k_:na→Bool→α) (l0:Int→Rows→Bytes→Int→Rows→α) (nc:Rows) (m:na) (domain at_:Int) (s:Bytes) (write:Bool):α:=
 let z0:Rows×Bool:=rl nc m domain at_ (len s) write
 bif DZ true (xc m) then
  bif !z0.2 then k_ (qY m) false
  else l0 (len z0.1) z0.1 s 0 ((qY m).nF)
 else jX
def ne8 (k_:na→Bool→α) (N:Nat) (nc:Rows) (m:na) (domain at_:Int) (s:Bytes) (write:Bool):α:=Yt jX k_ (fun x oA=>QA jX k_ N x oA N) nc m domain at_ s write
def nhP (nc:Rows) (m:na) (domain at_:Int) (s:Bytes) (write:Bool):Bool:=sm m.nF
def put (nc:Rows) (m:na) (domain at_:Int) (s:Bytes) (write:Bool):na×Bool:=
 bif !(rl nc m domain at_ (len s) write).2 then (m,false) else (⟨ng5 (rl nc m domain at_ (len s) write).1 s m.nF⟩,true)
theorem niE (k_:na→Bool→α) (nc:Rows) (m:na) (domain at_:Int) (s:Bytes) (write:Bool) (Ye:jV na.ct m.enc) (h_s:GO .str (.str s)) (aI:nhP nc m domain at_ s write=true):∃N,ne8 jX k_ N nc m domain at_ s write=k_ (put nc m domain at_ s write).1 (put nc m domain at_ s write).2:=by
 have hp0:GO (.sl [.str]) (.sl m.nF):=na.Nw Ye
 have IZ:xc m=true:=aI
 have Mf:=niS h_s
 refine⟨(rl nc m domain at_ (len s) write).1.length+1, ?_⟩
 unfold ne8 Yt put
 rw[show qY m=m from rfl]
 simp only[IZ,nk,cond_true]
 cases hr:(rl nc m domain at_ (len s) write).2
 ·rfl
 ·obtain⟨g1,g2,g3⟩:=ncC hp0 hr
  simp only[Bool.not_true,cond_false]
  generalize (rl nc m domain at_ (len s) write).1=R at g3 ⊢
  have key:∀(q n i:Nat) (s:Bytes) (l:Rows),i+q=R.length→q<n→Ow (fun _=>True) (R.drop i) s.length→pgs l→l.length≤64→R.length≤5000→
    QA jX k_ (R.length+1) (len R) R n s (i:Int) l=k_ (⟨ng5 (R.drop i) s l⟩:na) true:=by
   intro q
   induction q with
   | zero=>
    intro n i s l h1 h2 h3 h4 h5 h6
    obtain⟨n,rfl⟩:∃q,n=q+1:=⟨n - 1,by omega⟩
    rw[Xm,List.drop_eq_nil_of_le (by omega)]
    have hf:decide ((i:Int)<len R)=false:=decide_eq_false (by simp only[len];omega)
    simp only[QB,hf,cond_false,ng5]
   | succ q ih=>
    intro n i s l h1 h2 h3 h4 h5 h6
    obtain⟨n,rfl⟩:∃q,n=q+1:=⟨n - 1,by omega⟩
    have hi:i<R.length:=by omega
    have e0:R[i]=nth R i:=by simp [nth,hi]
    rw[List.drop_eq_getElem_cons hi,e0] at h3 ⊢
    obtain⟨p,k,e1,k1,k2,k3,_,k4⟩:=h3
    rw[Xm]
    have w1:nR ((i:Int)+1)=((i+1:Nat):Int):=by rw[nT (by omega) (by omega)];omega
    have x1:okH s (k:Int)=true:=by simp only[okH,Bool.and_eq_true,decide_eq_true_eq];omega
    have x2:okL s (k:Int)=true:=by simp only[okL,Bool.and_eq_true,decide_eq_true_eq];omega
    have x3:na2 s (k:Int)=s.take k:=by simp [na2]
    have x4:NY s (k:Int)=s.drop k:=by simp [NY]
    have x5:∀a b,qF (⟨l⟩:na) a b=true:=fun a b=>by
     unfold qF sm
     exact decide_eq_true (by show l.length≤16777216;omega)
    have r1:rI [DC.int (p:Int),DC.int (k:Int)] 0=(p:Int):=rfl
    have r2:rI [DC.int (p:Int),DC.int (k:Int)] 1=(k:Int):=rfl
    have wp:=Tl (a:=(p:Int)) (s:=s.take k) h4 h5
    have this:=ih n (i+1) (s.drop k) (pc (⟨l⟩:na) (p:Int) (s.take k)).1.nF (by omega) (by omega) (by rw[List.length_drop];exact k4) wp.1 (by rw[wp.2];exact h5) h6
    simp only[QB,pf hi,oa hi,tf hi,Int.toNat_natCast,e1,r1,r2,x1,x2,x3,x4,x5,w1,nk,nn,cond_true,ng5]
    exact this
  exact key R.length (R.length+1) 0 s m.nF (by omega) (by omega) (by have h:=g3.1;rw[show (len s).toNat=s.length by simp [len]] at h;exact h) g1 g2 g3.2
def Tn (k_:na→Bool→α) (nc:Rows) (m:na) (domain at_:Int) (s:Bytes):α:=
 let z0:na×Bool:=put nc m domain at_ s true
 bif DZ true (nhP nc m domain at_ s true) then
  k_ z0.1 z0.2
 else jX
def sF (nc:Rows) (m:na) (domain at_:Int) (s:Bytes):Bool:=sm m.nF
def qE (nc:Rows) (m:na) (domain at_:Int) (s:Bytes):na×Bool:=put nc m domain at_ s true
theorem ncH (k_:na→Bool→α) (nc:Rows) (m:na) (domain at_:Int) (s:Bytes) (aI:sF nc m domain at_ s=true):Tn jX k_ nc m domain at_ s=k_ (qE nc m domain at_ s).1 (qE nc m domain at_ s).2:=by
 have h:nhP nc m domain at_ s true=true:=aI
 unfold Tn qE
 simp only[h,nk,cond_true]
def tM (k_:na→α) (ou:Int) (ox:Int→Rows→α) (k:Int) (m_0:Rows):α:=
 bif bif decide (k<ou) then decide (ou≤64) else false then
  bif DZ (DZ true (xQ 128 0)) (pK 16 m_0 ([[.str (ux 128 0)]])) then
   ox (nR (k+1)) (m_0++([[.str (ux 128 0)]]))
  else jX
 else k_ (⟨m_0⟩:na)
def rn (k_:na→α) (N:Nat) (ou:Int) (m_:Nat):Int→Rows→α:=
 Nat.rec (motive:=fun _=>Int→Rows→α) (fun _ _=>jX) (fun _ ox=>tM jX k_ ou ox) m_
theorem wX (k_:na→α) (N:Nat) (ou:Int) (m_:Nat):rn jX k_ N ou (m_+1)=tM jX k_ ou (rn jX k_ N ou m_):=rfl
def zN {α:Type} (jX:α) (k_:na→α) (l0:Int→Rows→α) (ou:Int):α:=
 l0 0 []
def S0 (k_:na→α) (N:Nat) (ou:Int):α:=zN jX k_ (rn jX k_ N ou N) ou
def pg0:List DC:=[.str (ux 128 0)]
def pL (ou:Int):na:=⟨bif decide (ou≤64) then itN (fun _ o=>o++[pg0]) ou.toNat 0 [] else []⟩
theorem nch (k_:na→α) (ou:Int):∃N,S0 jX k_ N ou=k_ (pL ou):=by
 refine⟨66, ?_⟩
 unfold S0 zN pL
 by_cases GZ:ou≤64
 ·rw[decide_eq_true GZ,cond_true]
  refine xa ou.toNat (fun n i o=>rn jX k_ 66 ou n i o) (fun _ o=>o++[pg0]) (fun o=>k_ (⟨o⟩:na)) (fun i o=>o.length≤i) ?_ ?_ ?_ 66 [] (by simp) (by omega)
  ·intro i o hi ho
   simp only[List.length_append,List.length_cons,List.length_nil];omega
  ·intro n i o hi ho
   show rn jX k_ 66 ou (n+1) (i:Int) o=_
   rw[wX]
   have hr:∀x:List DC,pK 16 o [x]=true:=fun x=>sb (by simp only[List.length_cons,List.length_nil];omega) (by omega)
   have hl:xQ 128 0=true:=rfl
   simp only[tM,decide_eq_true (show (i:Int)<ou by omega),decide_eq_true GZ,hr,hl,nk,nn,cond_true,nT (show -9223372036854775808≤(i:Int)+1 by omega) (show (i:Int)+1≤9223372036854775807 by omega)]
   rfl
  ·intro n o ho
   show rn jX k_ 66 ou (n+1) ((ou.toNat:Nat):Int) o=_
   rw[wX]
   simp only[tM,decide_eq_false (show ¬((ou.toNat:Nat):Int)<ou by omega),cond_false]
 ·rw[decide_eq_false GZ,cond_false]
  show rn jX k_ 66 ou 66 0 []=_
  rw[wX]
  have hc:(bif decide ((0:Int)<ou) then decide (ou≤64) else false)=false:=by
   rw[decide_eq_false GZ]
   cases decide ((0:Int)<ou)<;>rfl
  simp only[tM,hc,cond_false]
theorem ncE {l:Rows} (hp:pgs l) (hl:l.length≤64) {a n:Int} :within (⟨l⟩:na) a n=true↔0≤n∧0≤a∧a+n≤128*l.length:=by
 constructor
 ·intro h
  obtain⟨_,_,h1,h2,h3⟩:=na5 (ngj hp hl) h
  exact⟨h1,h2,h3⟩
 ·rintro ⟨h1,h2,h3⟩
  obtain⟨n,rfl⟩:=Int.eq_ofNat_of_zero_le h1
  obtain⟨a,rfl⟩:=Int.eq_ofNat_of_zero_le h2
  exact njh hp hl (by omega)
theorem niv {l:Rows} (hp:pgs l) (hl:l.length≤64) {p o k:Int} (h0:0≤p) (o0:0≤o) (k1:1≤k) (hk:o+k≤128):within (⟨l⟩:na) (p*128+o) k=within (⟨l⟩:na) (p*128) 128:=by
 rw[Bool.eq_iff_iff,ncE hp hl,ncE hp hl]
 omega
def niI (domain oc:Int) (write:Bool) (r:List DC):Bool:=bif (rI r 0)==domain then bif (rI r 1)==oc then bif rB r 3 then true else !write else false else false
def niZ (nc:Rows) (domain oc:Int) (write:Bool):Int:=findIdx (fun _ r=>niI domain oc write r) nc 0
def xE (k_:Int→α) (nc:Rows) (domain oc:Int) (write:Bool) (ox:Int→α) (k:Int):α:=
 let z0:Bool:=(rI (nth nc (Int.toNat k)) 0)==domain
 let z1:Bool:=(rI (nth nc (Int.toNat k)) 1)==oc
 let z2:Bool:=DZ (DZ true (idx k nc)) (idx k nc)
 let z3:Bool:=DZ z2 (idx k nc)
 bif decide (k<len nc) then
  bif LG z0 (LG z1 (LG (rB (nth nc (Int.toNat k)) 3) z3 z3) z2) (DZ true (idx k nc)) then
   bif bif z0 then bif z1 then bif rB (nth nc (Int.toNat k)) 3 then true else !write else false else false then
    bif DZ true (idx k nc) then
     k_ (rI (nth nc (Int.toNat k)) 2)
    else jX
   else ox (nR (k+1))
  else jX
 else k_ (-1)
def xD (k_:Int→α) (N:Nat) (nc:Rows) (domain oc:Int) (write:Bool) (m_:Nat):Int→α:=
 Nat.rec (motive:=fun _=>Int→α) (fun _=>jX) (fun _ ox=>xE jX k_ nc domain oc write ox) m_
theorem Rb (k_:Int→α) (N:Nat) (nc:Rows) (domain oc:Int) (write:Bool) (m_:Nat):xD jX k_ N nc domain oc write (m_+1)=xE jX k_ nc domain oc write (xD jX k_ N nc domain oc write m_):=rfl
def Qa {α:Type} (jX:α) (k_ l0:Int→α) (nc:Rows) (domain oc:Int) (write:Bool):α:=
 l0 0
def Wq (k_:Int→α) (N:Nat) (nc:Rows) (domain oc:Int) (write:Bool):α:=Qa jX k_ (xD jX k_ N nc domain oc write N) nc domain oc write
def t6 (nc:Rows) (domain oc:Int) (write:Bool):Int:=bif decide (niZ nc domain oc write<0) then -1 else rI (nth nc (Int.toNat (niZ nc domain oc write))) 2
theorem nf9 (k_:Int→α) (nc:Rows) (domain oc:Int) (write:Bool) (pC:GO (.sl [.i,.i,.i,.bool]) (.sl nc)):∃N,Wq jX k_ N nc domain oc write=k_ (t6 nc domain oc write):=by
 obtain⟨hl,_⟩:=oU pC
 refine⟨nc.length+1, ?_⟩
 unfold Wq Qa t6
 refine (qo nc (xD jX k_ (nc.length+1) nc domain oc write) (fun i r c=>bif niI domain oc write r then k_ (bif decide ((i:Int)<0) then -1 else rI (nth nc (Int.toNat (i:Int))) 2) else c) (k_ (-1)) ?_ ?_).trans ?_
 ·intro n i h
  rw[Rb]
  have h0:decide ((i:Int)<0)=false:=decide_eq_false (by omega)
  simp only[xE,pf h,oa h,ov h hl,Int.toNat_natCast,nk,nn,nb9,cond_true,h0,cond_false]
  rfl
 ·intro n
  rw[Rb]
  simp only[xE,nS,cond_false]
 ·exact Ta (fun _ r=>niI domain oc write r) (fun x=>k_ (bif decide (x<0) then -1 else rI (nth nc (Int.toNat x)) 2)) nc 0
theorem neC {l:Rows} (h:oZ l=true) {i j:Nat} (hi:i<l.length) (hj:j<l.length) (h0:rI (nth l i) 0=rI (nth l j) 0) (h1:rI (nth l i) 1=rI (nth l j) 1):i=j:=by
 have key:∀i j:Nat,i<l.length→j<i→rI (nth l j) 0=rI (nth l i) 0→rI (nth l j) 1=rI (nth l i) 1→False:=by
  intro i j hi hj h0 h1
  unfold oZ at h
  by_cases h9:96<len l
  ·simp [h9] at h
  simp only[decide_eq_false h9,cond_false] at h
  cases ha:pr (fun i r=>bif tT r then true else vI (fun j=>bif (rI (nth l j) 0)==(rI r 0) then (rI (nth l j) 1)==(rI r 1) else false) i 0) l 0
  ·have h2:=nhd ha i hi
   rw[Nat.zero_add] at h2
   cases hb:tT (nth l i)
   ·rw[hb,cond_false] at h2
    have h3:=niU h2 j (Nat.zero_le _) (by omega)
    rw[h0,h1] at h3
    simp at h3
   ·rw[hb] at h2
    cases h2
  ·rw[ha] at h
   cases h
 rcases Nat.lt_trichotomy i j with h2 | h2 | h2
 ·exact (key j i hj h2 h0 h1).elim
 ·exact h2
 ·exact (key i j hi h2 h0.symm h1.symm).elim
theorem ni_ {l:Rows} (hM:oZ l=true) {d a:Int} {w:Bool} (ha:0≤a):place l d a w=bif decide (t6 l d (nR (Int.tdiv a 128)) w<0) then -1 else nR (nR (t6 l d (nR (Int.tdiv a 128)) w*128)+Int.tmod a 128):=by
 unfold place
 rw[decide_eq_false (show ¬a<0 by omega),cond_false]
 have hT:∀r,niI d (nR (Int.tdiv a 128)) w r=true↔(rI r 0=d∧rI r 1=nR (Int.tdiv a 128))∧(rB r 3=true∨w=false):=by
  intro r
  unfold niI
  by_cases h0:rI r 0=d
  ·by_cases h1:rI r 1=nR (Int.tdiv a 128)
   ·cases rB r 3<;>cases w<;>simp [h0,h1]
   ·simp [h0,h1]
  ·simp [h0]
 have ip:∀i,0≤rI (nth l i) 2∨¬i<l.length:=by
  intro i
  by_cases hi:i<l.length
  ·have hb:=(Ov hM).2 (nth l i) (xu hi)
   unfold tT at hb
   cases h4:nx (rI (nth l i) 2) 0 63
   ·rw[h4] at hb
    revert hb
    cases nx (rI (nth l i) 0) 0 7<;>cases nx (rI (nth l i) 1) 0 1023<;>simp
   ·exact .inl (oX.1 h4).1
  ·exact .inr hi
 have hq:=yl (fun _ r=>niI d (nR (Int.tdiv a 128)) w r) l 0
 have hp:=yl (fun _ r=>bif (rI r 0)==d then (rI r 1)==(nR (Int.tdiv a 128)) else false) l 0
 have e1:naP l d a=findIdx (fun _ r=>bif (rI r 0)==d then (rI r 1)==(nR (Int.tdiv a 128)) else false) l 0:=rfl
 unfold t6 niZ
 rw[e1]
 rcases hp with ⟨p1,p2⟩ | ⟨i,i1,i2,i3⟩
 ·rw[p1]
  rcases hq with ⟨q1,_⟩ | ⟨j,j1,_,j3⟩
  ·rw[q1];rfl
  ·have h2:=p2 j j1
   have h3:=((hT _).1 j3).1
   simp [h3.1,h3.2] at h2
 ·rw[i2]
  have hi3:rI (nth l i) 0=d∧rI (nth l i) 1=nR (Int.tdiv a 128):=by simpa [njo] using i3
  simp only[Nat.zero_add,Int.toNat_natCast,decide_eq_false (show ¬((i:Int)<0) by omega),cond_false]
  rcases hq with ⟨q1,q2⟩ | ⟨j,j1,j2,j3⟩
  ·rw[q1]
   have h2:=q2 i i1
   have h3:¬(rB (nth l i) 3=true∨w=false):=fun h=>by
    rw[(hT _).2 ⟨hi3,h⟩] at h2
    cases h2
   rw[not_or] at h3
   cases w
   ·exact absurd rfl h3.2
   ·simp only[h3.1,cond_true,Bool.not_eq_true _ ▸ (by simpa using h3.1:rB (nth l i) 3=false),Bool.not_false]
    rfl
  ·have h3:=(hT _).1 j3
   have hij:i=j:=neC hM i1 j1 (hi3.1.trans h3.1.1.symm) (hi3.2.trans h3.1.2.symm)
   subst hij
   rw[j2]
   simp only[Nat.zero_add,Int.toNat_natCast,decide_eq_false (show ¬((i:Int)<0) by omega),cond_false]
   have hn:=(ip i).resolve_right (by omega)
   rw[decide_eq_false (show ¬rI (nth l i) 2<0 by omega),cond_false]
   have hc:(bif w then !(rB (nth l i) 3) else false)=false:=by
    rcases h3.2 with h4 | h4
    ·rw[h4];cases w<;>rfl
    ·rw[h4];rfl
   rw[hc,cond_false]
theorem njX {l:Rows} (hM:oZ l=true) (d v:Int) (w:Bool):t6 l d v w= -1∨(0≤t6 l d v w∧t6 l d v w≤63):=by
 unfold t6 niZ
 rcases yl (fun _ r=>niI d v w r) l 0 with ⟨q1,_⟩ | ⟨j,j1,j2,j3⟩
 ·rw[q1];exact .inl rfl
 ·rw[j2]
  simp only[Nat.zero_add,Int.toNat_natCast,decide_eq_false (show ¬((j:Int)<0) by omega),cond_false]
  have hb:=(Ov hM).2 (nth l j) (xu j1)
  unfold tT at hb
  cases h4:nx (rI (nth l j) 2) 0 63
  ·rw[h4] at hb
   revert hb
   cases nx (rI (nth l j) 0) 0 7<;>cases nx (rI (nth l j) 1) 0 1023<;>simp
  ·exact .inr (oX.1 h4)
theorem nhi (q:List DC→List DC):∀(l o:Rows),l.foldl (fun o r=>o++[q r]) o=o++l.map q
 | [],o=>by simp
 | r::rs,o=>by rw[List.foldl_cons,nhi q rs];simp
def pF0 (r:List DC):List DC:=[.int (rI r 0)]
def pF1 (r:List DC):List DC:=[.int (rI r 1)]
theorem nex (f:List DC→List DC) {l:Rows} {i:Nat} (h:i<l.length):nth (l.map f) i=f (nth l i):=by
 simp [nth,List.getD_eq_getElem?_getD,h]
def uh (k_:Rows→Rows→Bool→α) (nc:Rows) (domain:Int) (write:Bool) (tX:Rows) (ox:Int→Int→Rows→Rows→α) (sL n_1:Int) (starts qd:Rows):α:=
 let z0:Int:=bif decide (0≤sL) then t6 nc domain (nR (Int.tdiv sL 128)) write else (-1)
 let z1:Int:=wU n_1 (nR (128 - (Int.tmod sL 128)))
 bif decide (0<n_1) then
  bif bif decide (z0<0) then true else !(within (⟨tX⟩:na) (nR (z0*128)) 128) then k_ [] [] false
  else bif DZ true (pK 8 starts ([[.int (nR ((nR (z0*128))+(Int.tmod sL 128)))]])) then
    bif DZ true (pK 8 qd ([[.int z1]])) then
     ox (nR (sL+z1)) (nR (n_1 - z1)) (starts++([[.int (nR ((nR (z0*128))+(Int.tmod sL 128)))]])) (qd++([[.int z1]]))
    else jX
   else jX
 else k_ starts qd true
def wN (k_:Rows→Rows→Bool→α) (N:Nat) (nc:Rows) (domain:Int) (write:Bool) (tX:Rows) (m_:Nat):Int→Int→Rows→Rows→α:=
 Nat.rec (motive:=fun _=>Int→Int→Rows→Rows→α) (fun _ _ _ _=>jX) (fun _ ox=>uh jX k_ nc domain write tX ox) m_
theorem Zh (k_:Rows→Rows→Bool→α) (N:Nat) (nc:Rows) (domain:Int) (write:Bool) (tX:Rows) (m_:Nat):wN jX k_ N nc domain write tX (m_+1)=uh jX k_ nc domain write tX (wN jX k_ N nc domain write tX m_):=rfl
def NX {α:Type} (jX:α) (k_:Rows→Rows→Bool→α) (l0:Rows→Int→Int→Rows→Rows→α) (nc:Rows) (m:na) (domain at_ n:Int) (write:Bool):α:=
 bif bif !(oZ nc) then true else bif !(qe m) then true else !(nx n 0 4096) then k_ [] [] false
 else l0 m.nF at_ n [] []
def UY (k_:Rows→Rows→Bool→α) (N:Nat) (nc:Rows) (m:na) (domain at_ n:Int) (write:Bool):α:=NX jX k_ (fun tX=>wN jX k_ N nc domain write tX N) nc m domain at_ n write
def yI (nc:Rows) (m:na) (domain at_ n:Int) (write:Bool):Rows×Rows×Bool:=
 ((rl nc m domain at_ n write).1.map pF0,(rl nc m domain at_ n write).1.map pF1,(rl nc m domain at_ n write).2)
theorem nep (k_:Rows→Rows→Bool→α) (nc:Rows) (m:na) (domain at_ n:Int) (write:Bool) (Ye:jV na.ct m.enc) (U_:GO .i (.int at_)):∃N,UY jX k_ N nc m domain at_ n write=k_ (yI nc m domain at_ n write).1 (yI nc m domain at_ n write).2.1 (yI nc m domain at_ n write).2.2:=by
 have hp0:GO (.sl [.str]) (.sl m.nF):=na.Nw Ye
 have FF:=vW U_
 refine⟨n.toNat+2, ?_⟩
 unfold UY NX yI rl
 refine qv (K:=fun r:Rows×Bool=>k_ (r.1.map pF0) (r.1.map pF1) r.2) (fun _=>rfl) (fun hg=> ?_)
 have hM:oZ nc=true:=by
  cases hM:oZ nc
  ·rw[hM] at hg;cases hg
  ·rfl
 have hm:qe m=true:=by
  cases hm:qe m
  ·rw[hM,hm] at hg;cases hg
  ·rfl
 have hb:0≤n∧n≤4096:=by
  cases hc:nx n 0 4096
  ·rw[hM,hm,hc] at hg;cases hg
  ·exact oX.1 hc
 obtain⟨p1,p2⟩:=nhO hp0 hm
 have key:∀(q N':Nat) (a n:Int) (o:Rows),n<q→q≤N'→0≤n→n≤4096→a≤9223372036854775807→o.length+n.toNat≤5000→∀M,wN jX k_ M nc domain write m.nF N' a n (o.map pF0) (o.map pF1)=
   (fun r:Rows×Bool=>k_ (r.1.map pF0) (r.1.map pF1) r.2) (bif bif decide (a<0) then decide (0<n) else false then ([],false) else Y2 nc domain write m.nF q a n o):=by
  intro q
  induction q with
  | zero=>intro N' a n o h1 h2 h3;omega
  | succ q ih=>
   intro N' a n o h1 h2 h3 h4 h7 h6 M
   obtain⟨N',rfl⟩:∃p,N'=p+1:=⟨N' - 1,by omega⟩
   rw[Zh]
   by_cases hn:0<n
   ·by_cases ha:a<0
    ·simp only[uh,decide_eq_true hn,decide_eq_true ha,decide_eq_false (show ¬0≤a by omega),cond_true,cond_false,show decide ((-1:Int)<0)=true from rfl]
     rfl
    ·obtain⟨r1,r2,r3,r4⟩:=nfH (show 0≤a by omega) hn h4
     have tm:=na4 (x:=a) (m:=128) (by omega) (by omega)
     have hr:∀(l:Rows) (x:List DC),l.length≤5000→pK 8 l [x]=true:=fun l x hl=>sb (by simp only[List.length_cons,List.length_nil];omega) (by omega)
     have hlp:=ni_ (d:=domain) (w:=write) hM (show 0≤a by omega)
     have fh:(bif decide (t6 nc domain (nR (Int.tdiv a 128)) write<0) then true else !(within m (nR (t6 nc domain (nR (Int.tdiv a 128)) write*128)) 128))=
       (bif decide (place nc domain a write<0) then true else !(within m (place nc domain a write) (wU n (nR (128 - Int.tmod a 128))))):=by
      rw[hlp]
      rcases njX hM domain (nR (Int.tdiv a 128)) write with h8 | ⟨h8,h9⟩
      ·rw[h8];rfl
      ·generalize t6 nc domain (nR (Int.tdiv a 128)) write=P at h8 h9 ⊢
       rw[decide_eq_false (show ¬P<0 by omega),cond_false,cond_false,nT (n:=P*128) (by omega) (by omega),nT (n:=P*128+Int.tmod a 128) (by omega) (by omega),
        decide_eq_false (show ¬P*128+Int.tmod a 128<0 by omega),cond_false]
       rw[show within m (P*128+Int.tmod a 128) (wU n (nR (128 - Int.tmod a 128)))=within m (P*128) 128 from niv p1 p2 h8 tm.1 r1 (by omega)]
     have hlen:∀f:List DC→List DC,(o.map f).length≤5000:=fun f=>by rw[List.length_map];omega
     unfold Y2
     simp only[uh,decide_eq_true hn,decide_eq_false ha,decide_eq_true (show 0≤a by omega),cond_true,cond_false,hr _ _ (hlen _),nk]
     have hM1:(⟨m.nF⟩:na)=m:=rfl
     rw[hM1,fh]
     refine qv (K:=fun r:Rows×Bool=>k_ (r.1.map pF0) (r.1.map pF1) r.2) (fun _=>rfl) (fun hc=> ?_)
     have KG:place nc domain a write=nR (nR (t6 nc domain (nR (Int.tdiv a 128)) write*128)+Int.tmod a 128):=by
      rw[hlp]
      cases hd:decide (t6 nc domain (nR (Int.tdiv a 128)) write<0)
      ·rfl
      ·rw[hlp,hd] at hc
       cases hc
     rw[←KG,r4]
     have e0:o.map pF0++[[DC.int (place nc domain a write)]]=(o++[[DC.int (place nc domain a write),DC.int (wU n (nR (128 - Int.tmod a 128)))]]).map pF0:=by rw[List.map_append];rfl
     have e1:o.map pF1++[[DC.int (wU n (nR (128 - Int.tmod a 128)))]]=(o++[[DC.int (place nc domain a write),DC.int (wU n (nR (128 - Int.tmod a 128)))]]).map pF1:=by rw[List.map_append];rfl
     rw[e0,e1]
     exact ih N' _ _ _ (by omega) (by omega) (by omega) (by omega) (njN _) (by simp only[List.length_append,List.length_cons,List.length_nil];omega) M
   ·have hz:(bif decide (a<0) then decide (0<n) else false)=false:=by rw[decide_eq_false hn];cases decide (a<0)<;>rfl
    rw[hz]
    unfold Y2
    simp only[uh,decide_eq_false hn,cond_false]
 refine (key (n.toNat+1) (n.toNat+2) at_ n [] (by omega) (by omega) hb.1 hb.2 FF.2 (by simp only[List.length_nil];omega) _).trans ?_
 congr 1
 by_cases h0:n=0
 ·subst h0
  cases decide (at_<0)<;>rfl
 ·rw[show (n==0)=false by simpa using h0,cond_false,decide_eq_true (show 0<n by omega)]
  cases decide (at_<0)<;>rfl
def Wn (k_:na→α) (m:na):α:=
 bif DZ true (pK 16 [] m.nF) then
  k_ m
 else jX
theorem nf8 (k_:na→α) (m:na) (aI:xc m=true):Wn jX k_ m=k_ (qY m):=by
 have Hn:xc m=true:=aI
 unfold Wn
 rw[xd (show sm m.nF=true from Hn) (show 16≤8388608 by omega)]
 rfl
def sw (k_:na→Bool→α) (ox:Int→Bytes→Rows→α) (sL:Int) (rP:Bytes) (pB:Rows):α:=
 let z0:Bool:=idx (nR (Int.tdiv sL 128)) pB
 let z1:Bool:=inl (Int.toNat (nR (Int.tdiv sL 128))) pB
 let z2:Int:=wU (len rP) (nR (128 - (Int.tmod sL 128)))
 let z3:List DC:=nth pB (Int.toNat (nR (Int.tdiv sL 128)))
 let z4:Bytes:=na2 rP z2
 bif decide (0<len rP) then
  bif DZ (DZ (DZ (DZ (DZ (DZ true z0) z1) (okH rP z2)) (x9 (rS z3 0) (Int.tmod sL 128) z4)) z0) z1 then
   bif DZ true (okL rP z2) then
    ox (nR (sL+z2)) (NY rP z2) (List.set pB (Int.toNat (nR (Int.tdiv sL 128))) (bP z3 0 [.str (RL (rS z3 0) (Int.tmod sL 128) z4)]))
   else jX
  else jX
 else k_ (⟨pB⟩:na) true
def ua (k_:na→Bool→α) (N m_:Nat):Int→Bytes→Rows→α:=
 Nat.rec (motive:=fun _=>Int→Bytes→Rows→α) (fun _ _ _=>jX) (fun _ ox=>sw jX k_ ox) m_
theorem ze (k_:na→Bool→α) (N m_:Nat):ua jX k_ N (m_+1)=sw jX k_ (ua jX k_ N m_):=rfl
def x8 (k_:na→Bool→α) (l0:Int→Bytes→Rows→α) (m:na) (at_:Int) (s:Bytes):α:=
 bif DZ true (xc m) then
  bif !(within m at_ (len s)) then k_ (qY m) false
  else l0 at_ s ((qY m).nF)
 else jX
def PW (k_:na→Bool→α) (N:Nat) (m:na) (at_:Int) (s:Bytes):α:=x8 jX k_ (ua jX k_ N N) m at_ s
theorem Ze (k_:na→Bool→α) (m:na) (at_:Int) (s:Bytes) (Ye:jV na.ct m.enc) (aI:qF m at_ s=true):∃N,PW jX k_ N m at_ s=k_ (pc m at_ s).1 (pc m at_ s).2:=by
 have hp0:GO (.sl [.str]) (.sl m.nF):=na.Nw Ye
 have IZ:xc m=true:=aI
 refine⟨s.length+1, ?_⟩
 unfold PW x8 pc
 rw[show qY m=m from rfl]
 simp only[IZ,nk,cond_true]
 cases hw:within m at_ (len s)
 ·rfl
 ·obtain⟨p1,p2,p3,p4,p5⟩:=na5 hp0 hw
  obtain⟨a,rfl⟩:=Int.eq_ofNat_of_zero_le p4
  simp only[Bool.not_true,cond_false,Int.toNat_natCast]
  have key:∀(q n a:Nat) (s:Bytes) (l:Rows),s.length≤q→q<n→pgs l→l.length≤64→a+s.length≤128*l.length→∀M,ua jX k_ M n (a:Int) s l=k_ (⟨ncu q a s l⟩:na) true:=by
   intro q
   induction q with
   | zero=>
    intro n a s l h1 h2 h3 h4 h5 M
    obtain⟨n,rfl⟩:∃q,n=q+1:=⟨n - 1,by omega⟩
    have:s=[]:=List.length_eq_zero_iff.1 (by omega)
    subst this
    rw[ze]
    simp only[sw,show decide (0<len ([]:Bytes))=false by decide,cond_false,ncu]
   | succ q ih=>
    intro n a s l h1 h2 h3 h4 h5 M
    obtain⟨n,rfl⟩:∃q,n=q+1:=⟨n - 1,by omega⟩
    rw[ze]
    by_cases hs:0<s.length
    ·have hd:decide (0<len s)=true:=decide_eq_true (by simp only[len];omega)
     have hpg:a / 128<l.length:=by omega
     obtain⟨p,e1,e2⟩:=h3 (a / 128) hpg
     have w1:nR (((a / 128:Nat):Int))=((a / 128:Nat):Int):=nT (by omega) (by omega)
     have c1:wU (len s) (nR (128 - ((a % 128:Nat):Int)))=((min s.length (128 - a % 128):Nat):Int):=by
      rw[nT (by omega) (by omega)]
      unfold wU len
      by_cases hx:128 - ((a % 128:Nat):Int)<(s.length:Int)
      ·rw[if_pos hx];omega
      ·rw[if_neg hx];omega
     have w2:nR ((a:Int)+((min s.length (128 - a % 128):Nat):Int))=((a+min s.length (128 - a % 128):Nat):Int):=by rw[nT (by omega) (by omega)];omega
     have g1:okH s ((min s.length (128 - a % 128):Nat):Int)=true:=by simp only[okH,Bool.and_eq_true,decide_eq_true_eq];omega
     have g4:okL s ((min s.length (128 - a % 128):Nat):Int)=true:=by simp only[okL,Bool.and_eq_true,decide_eq_true_eq];omega
     have g5:NY s ((min s.length (128 - a % 128):Nat):Int)=s.drop (min s.length (128 - a % 128)):=by simp [NY]
     have g6:na2 s ((min s.length (128 - a % 128):Nat):Int)=s.take (min s.length (128 - a % 128)):=by simp [na2]
     have g7:x9 p ((a % 128:Nat):Int) (s.take (min s.length (128 - a % 128)))=true:=by
      simp only[x9,Bool.and_eq_true,decide_eq_true_eq,List.length_take];omega
     have tk:s.take (min s.length (128 - a % 128))=s.take (128 - a % 128):=by
      rcases Nat.le_total s.length (128 - a % 128) with h8 | h8
      ·rw[Nat.min_eq_left h8,List.take_length,List.take_of_length_le h8]
      ·rw[Nat.min_eq_right h8]
     have g8:RL p ((a % 128:Nat):Int) (s.take (min s.length (128 - a % 128)))=Tj p (a % 128) s:=by
      have hw:yc p ((a % 128:Nat):Int) (len (s.take (min s.length (128 - a % 128))))=true:=(within_iff (by omega)).2 (by simp only[len,List.length_take];omega)
      unfold RL Tj
      rw[hw,Bool.not_true,cond_false,Int.toNat_natCast,List.append_assoc,List.length_take,tk]
      congr 3
      omega
     have st:=Zi (a:=a) (s:=s) h3 hpg
     have this:=ih n (a+min s.length (128 - a % 128)) (s.drop (min s.length (128 - a % 128))) (zP l a s) (by rw[List.length_drop];omega) (by omega) st.1 (by rw[st.2];exact h4) (by rw[st.2,List.length_drop];omega) M
     have e5:zP l a s=l.set (a / 128) [.str (Tj p (a % 128) s)]:=by unfold zP;rw[e1];rfl
     unfold ncu
     rw[decide_eq_true hs,cond_true]
     rw[e5] at this ⊢
     simp only[sw,hd,nip,niq,w1,oa hpg,tf hpg,Int.toNat_natCast,e1,niM,c1,w2,g1,g4,g5,g6,g7,g8,Ti,nk,nn,cond_true]
     exact this
    ·have:s=[]:=List.length_eq_zero_iff.1 (by omega)
     subst this
     simp only[sw,show decide (0<len ([]:Bytes))=false by decide,cond_false]
     rfl
  exact key s.length (s.length+1) a s m.nF (Nat.le_refl _) (by omega) p1 p2 (by simp only[len] at p5;omega) _
def wF (k_:na→Bool→α) (starts qd:Rows) (ox:Bytes→Int→Rows→α) (rP:Bytes) (k:Int) (pB:Rows):α:=
 let z0:Bytes:=na2 rP (rI (nth qd (Int.toNat k)) 0)
 bif decide (k<len starts) then
  bif DZ (DZ (DZ (DZ (DZ (DZ true (idx k starts)) (inl (Int.toNat k) starts)) (idx k qd)) (inl (Int.toNat k) qd)) (okH rP (rI (nth qd (Int.toNat k)) 0))) (qF (⟨pB⟩:na) (rI (nth starts (Int.toNat k)) 0) z0) then
   bif DZ (DZ (DZ true (idx k qd)) (inl (Int.toNat k) qd)) (okL rP (rI (nth qd (Int.toNat k)) 0)) then
    ox (NY rP (rI (nth qd (Int.toNat k)) 0)) (nR (k+1)) (((pc (⟨pB⟩:na) (rI (nth starts (Int.toNat k)) 0) z0).1).nF)
   else jX
  else jX
 else k_ (⟨pB⟩:na) true
def wE (k_:na→Bool→α) (N:Nat) (starts qd:Rows) (m_:Nat):Bytes→Int→Rows→α:=
 Nat.rec (motive:=fun _=>Bytes→Int→Rows→α) (fun _ _ _=>jX) (fun _ ox=>wF jX k_ starts qd ox) m_
theorem PH (k_:na→Bool→α) (N:Nat) (starts qd:Rows) (m_:Nat):wE jX k_ N starts qd (m_+1)=wF jX k_ starts qd (wE jX k_ N starts qd m_):=rfl
def NP (k_:na→Bool→α) (l0:Rows→Rows→Bytes→Int→Rows→α) (nc:Rows) (m:na) (domain at_:Int) (s:Bytes):α:=
 let z0:Rows×Rows×Bool:=yI nc m domain at_ (len s) true
 bif DZ true (xc m) then
  bif !z0.2.2 then k_ (qY m) false
  else l0 z0.1 z0.2.1 s 0 ((qY m).nF)
 else jX
def Uu (k_:na→Bool→α) (N:Nat) (nc:Rows) (m:na) (domain at_:Int) (s:Bytes):α:=NP jX k_ (fun starts qd=>wE jX k_ N starts qd N) nc m domain at_ s
theorem ndV (k_:na→Bool→α) (nc:Rows) (m:na) (domain at_:Int) (s:Bytes) (Ye:jV na.ct m.enc) (h_s:GO .str (.str s)) (aI:sF nc m domain at_ s=true):∃N,Uu jX k_ N nc m domain at_ s=k_ (qE nc m domain at_ s).1 (qE nc m domain at_ s).2:=by
 have hp0:GO (.sl [.str]) (.sl m.nF):=na.Nw Ye
 have IZ:xc m=true:=aI
 have Mf:=niS h_s
 refine⟨(rl nc m domain at_ (len s) true).1.length+1, ?_⟩
 unfold Uu NP qE put yI
 rw[show qY m=m from rfl]
 simp only[IZ,nk,cond_true]
 cases hr:(rl nc m domain at_ (len s) true).2
 ·rfl
 ·obtain⟨g1,g2,g3⟩:=ncC hp0 hr
  simp only[Bool.not_true,cond_false]
  generalize (rl nc m domain at_ (len s) true).1=R at g3 ⊢
  have key:∀(q n i:Nat) (s:Bytes) (l:Rows),i+q=R.length→q<n→Ow (fun _=>True) (R.drop i) s.length→pgs l→l.length≤64→R.length≤5000→
    wE jX k_ (R.length+1) (R.map pF0) (R.map pF1) n s (i:Int) l=k_ (⟨ng5 (R.drop i) s l⟩:na) true:=by
   intro q
   induction q with
   | zero=>
    intro n i s l h1 h2 h3 h4 h5 h6
    obtain⟨n,rfl⟩:∃q,n=q+1:=⟨n - 1,by omega⟩
    rw[PH,List.drop_eq_nil_of_le (by omega)]
    have hf:decide ((i:Int)<len (R.map pF0))=false:=decide_eq_false (by simp only[len,List.length_map];omega)
    simp only[wF,hf,cond_false,ng5]
   | succ q ih=>
    intro n i s l h1 h2 h3 h4 h5 h6
    obtain⟨n,rfl⟩:∃q,n=q+1:=⟨n - 1,by omega⟩
    have hi:i<R.length:=by omega
    have e0:R[i]=nth R i:=by simp [nth,hi]
    rw[List.drop_eq_getElem_cons hi,e0] at h3 ⊢
    obtain⟨p,k,e1,k1,k2,k3,_,k4⟩:=h3
    rw[PH]
    have w1:nR ((i:Int)+1)=((i+1:Nat):Int):=by rw[nT (by omega) (by omega)];omega
    have x1:okH s (k:Int)=true:=by simp only[okH,Bool.and_eq_true,decide_eq_true_eq];omega
    have x2:okL s (k:Int)=true:=by simp only[okL,Bool.and_eq_true,decide_eq_true_eq];omega
    have x3:na2 s (k:Int)=s.take k:=by simp [na2]
    have x4:NY s (k:Int)=s.drop k:=by simp [NY]
    have x5:∀a b,qF (⟨l⟩:na) a b=true:=fun a b=>by
     unfold qF sm
     exact decide_eq_true (by show l.length≤16777216;omega)
    have Mb:∀f:List DC→List DC,i<(R.map f).length:=fun f=>by rw[List.length_map];exact hi
    have n0:nth (R.map pF0) i=[.int (p:Int)]:=by rw[nex _ hi,e1];rfl
    have n1:nth (R.map pF1) i=[.int (k:Int)]:=by rw[nex _ hi,e1];rfl
    have r1:rI [DC.int (p:Int),DC.int (k:Int)] 0=(p:Int):=rfl
    have r2:rI [DC.int (p:Int),DC.int (k:Int)] 1=(k:Int):=rfl
    have wp:=Tl (a:=(p:Int)) (s:=s.take k) h4 h5
    have this:=ih n (i+1) (s.drop k) (pc (⟨l⟩:na) (p:Int) (s.take k)).1.nF (by omega) (by omega) (by rw[List.length_drop];exact k4) wp.1 (by rw[wp.2];exact h5) h6
    simp only[wF,pf (Mb _),oa (Mb _),tf (Mb _),Int.toNat_natCast,n0,n1,e1,r1,r2,njH,x1,x2,x3,x4,x5,w1,nk,nn,cond_true,ng5]
    exact this
  exact key R.length (R.length+1) 0 s m.nF (by omega) (by omega) (by have h:=g3.1;rw[show (len s).toNat=s.length by simp [len]] at h;exact h) g1 g2 g3.2
def opR (r:List DC):List DC:=[.int (rI r 0),.int (rI r 1),.int (rI r 2),.bool true]
theorem nhW {p q:Nat→Bool} (h:∀j,p j=q j) (m i:Nat):vI p m i=vI q m i:=X_ m i (fun j _ _=>h j)
theorem nhQ (l:Rows) (i:Nat):rI (nth (l.map opR) i) 0=rI (nth l i) 0∧rI (nth (l.map opR) i) 1=rI (nth l i) 1∧rI (nth (l.map opR) i) 2=rI (nth l i) 2:=by
 by_cases h:i<l.length
 ·rw[nex _ h];exact⟨rfl,rfl,rfl⟩
 ·have e:∀k:Rows,¬i<k.length→nth k i=[]:=fun k hk=>by simp [nth,List.getD_eq_getElem?_getD,List.getElem?_eq_none (show k.length≤i by omega)]
  rw[e l h,e (l.map opR) (by rw[List.length_map];exact h)]
  exact⟨rfl,rfl,rfl⟩
theorem ncF (l:Rows):oZ (l.map opR)=oZ l:=by
 unfold oZ
 have hlen:len (l.map opR)=len l:=by simp [len]
 rw[hlen]
 have go:∀(l2:Rows) (s:Nat),pr (fun i r=>bif tT r then true else vI (fun j=>bif (rI (nth (l.map opR) j) 0)==(rI r 0) then (rI (nth (l.map opR) j) 1)==(rI r 1) else false) i 0) (l2.map opR) s=
   pr (fun i r=>bif tT r then true else vI (fun j=>bif (rI (nth l j) 0)==(rI r 0) then (rI (nth l j) 1)==(rI r 1) else false) i 0) l2 s:=by
  intro l2
  induction l2 with
  | nil=>intro s;rfl
  | cons r rs ih=>
   intro s
   have e:vI (fun j=>bif (rI (nth (l.map opR) j) 0)==(rI (opR r) 0) then (rI (nth (l.map opR) j) 1)==(rI (opR r) 1) else false) s 0=vI (fun j=>bif (rI (nth l j) 0)==(rI r 0) then (rI (nth l j) 1)==(rI r 1) else false) s 0:=
    nhW (fun j=>by rw[(nhQ l j).1,(nhQ l j).2.1];rfl) s 0
   simp only[List.map_cons,pr]
   rw[ih (s+1),e]
   rfl
 rw[go l 0]
theorem niL (l:Rows) (d a:Int):place (l.map opR) d a true=place l d a false:=by
 have hx:naP (l.map opR) d a=naP l d a:=by
  unfold naP qV
  have go:∀(l2:Rows) (s:Nat),findIdx (fun _ r=>bif (rI r 0)==d then (rI r 1)==(nR (Int.tdiv a 128)) else false) (l2.map opR) s=findIdx (fun _ r=>bif (rI r 0)==d then (rI r 1)==(nR (Int.tdiv a 128)) else false) l2 s:=by
   intro l2
   induction l2 with
   | nil=>intro s;rfl
   | cons r rs ih=>
    intro s
    simp only[List.map_cons,findIdx]
    rw[ih (s+1)]
    rfl
  exact go l 0
 unfold place
 rw[hx]
 rcases YZ l d a with h | ⟨i,i1,i2,_⟩
 ·rw[decide_eq_true h];rfl
 ·rw[i2,Int.toNat_natCast,(nhQ l i).2.2,nex _ i1]
  rfl
theorem nhp (l:Rows) (d:Int) (ou:Rows):∀(q:Nat) (a n:Int) (o:Rows),Y2 (l.map opR) d true ou q a n o=Y2 l d false ou q a n o
 | 0,_,_,_=>rfl
 | q+1,a,n,o=>by
  unfold Y2
  rw[niL,nhp l d ou q]
theorem nik (l:Rows) (m:na) (d a n:Int):rl (l.map opR) m d a n true=rl l m d a n false:=by
 unfold rl
 rw[ncF,nhp]
def vC (k_:na→Bool→α) (nc:Rows) (domain at_:Int) (s:Bytes) (tX:Rows) (ox:Int→Rows→α) (k:Int) (open_:Rows):α:=
 let z0:na×Bool:=qE open_ (⟨tX⟩:na) domain at_ s
 bif decide (k<len nc) then
  bif DZ true (idx k nc) then
   bif DZ true (pK 32 open_ ([[.int (rI (nth nc (Int.toNat k)) 0),.int (rI (nth nc (Int.toNat k)) 1),.int (rI (nth nc (Int.toNat k)) 2),.bool true]])) then
    ox (nR (k+1)) (open_++([[.int (rI (nth nc (Int.toNat k)) 0),.int (rI (nth nc (Int.toNat k)) 1),.int (rI (nth nc (Int.toNat k)) 2),.bool true]]))
   else jX
  else jX
 else bif DZ true (sF open_ (⟨tX⟩:na) domain at_ s) then
   k_ z0.1 z0.2
  else jX
def se (k_:na→Bool→α) (N:Nat) (nc:Rows) (domain at_:Int) (s:Bytes) (tX:Rows) (m_:Nat):Int→Rows→α:=
 Nat.rec (motive:=fun _=>Int→Rows→α) (fun _ _=>jX) (fun _ ox=>vC jX k_ nc domain at_ s tX ox) m_
theorem Ol (k_:na→Bool→α) (N:Nat) (nc:Rows) (domain at_:Int) (s:Bytes) (tX:Rows) (m_:Nat):se jX k_ N nc domain at_ s tX (m_+1)=vC jX k_ nc domain at_ s tX (se jX k_ N nc domain at_ s tX m_):=rfl
def zL {α:Type} (jX:α) (k_:na→Bool→α) (l0:Rows→Int→Rows→α) (nc:Rows) (m:na) (domain at_:Int) (s:Bytes):α:=
 l0 m.nF 0 []
def SW (k_:na→Bool→α) (N:Nat) (nc:Rows) (m:na) (domain at_:Int) (s:Bytes):α:=zL jX k_ (fun tX=>se jX k_ N nc domain at_ s tX N) nc m domain at_ s
def vX (nc:Rows) (m:na) (domain at_:Int) (s:Bytes):Bool:=sm nc && sm m.nF
def ub (nc:Rows) (m:na) (domain at_:Int) (s:Bytes):na×Bool:=put nc m domain at_ s false
theorem ncd (k_:na→Bool→α) (nc:Rows) (m:na) (domain at_:Int) (s:Bytes) (pC:GO (.sl [.i,.i,.i,.bool]) (.sl nc)) (aI:vX nc m domain at_ s=true):∃N,SW jX k_ N nc m domain at_ s=k_ (ub nc m domain at_ s).1 (ub nc m domain at_ s).2:=by
 obtain⟨hl,_⟩:=oU pC
 have hk:sm nc=true∧sm m.nF=true:=by simpa [vX] using aI
 have l1:=sX hk.1
 refine⟨nc.length+1, ?_⟩
 unfold SW zL ub
 refine (xa nc.length (fun n i o=>se jX k_ (nc.length+1) nc domain at_ s m.nF n i o) (fun i o=>o++[opR (nth nc i)]) (fun o=>k_ (qE o m domain at_ s).1 (qE o m domain at_ s).2) (fun i o=>o.length≤i) ?_ ?_ ?_ (nc.length+1) [] (by simp) (by omega)).trans ?_
 ·intro i o hi ho
  simp only[List.length_append,List.length_cons,List.length_nil];omega
 ·intro n i o hi ho
  show se jX k_ (nc.length+1) nc domain at_ s m.nF (n+1) (i:Int) o=_
  rw[Ol]
  have ep:∀x:List DC,pK 32 o [x]=true:=fun x=>sb (by simp only[List.length_cons,List.length_nil];omega) (by omega)
  simp only[vC,pf hi,oa hi,ep,ov hi hl,Int.toNat_natCast,nk,nn,cond_true]
  rfl
 ·intro n o ho
  show se jX k_ (nc.length+1) nc domain at_ s m.nF (n+1) (nc.length:Int) o=_
  rw[Ol]
  have hd:sF o m domain at_ s=true:=hk.2
  have hM1:(⟨m.nF⟩:na)=m:=rfl
  simp only[vC,nS,cond_false,hM1,hd,nk,cond_true]
 ·have e:itN (fun i o=>o++[opR (nth nc i)]) nc.length 0 []=nc.map opR:=((nhk (fun (o:Rows) (r:List DC)=>o++[opR r]) nc [] []).trans (nhi opR nc [])).trans (by simp)
  rw[e]
  unfold qE put
  rw[nik]
def Wt (k_:nm→α) (f:nm):α:=
 bif DZ true (pK 8 [] f.nZ) then
  k_ f
 else jX
def U6 (f:nm):Bool:=sm f.nZ
theorem ngc (k_:nm→α) (f:nm) (aI:U6 f=true):Wt jX k_ f=k_ (qY f):=by
 have Hn:U6 f=true:=aI
 unfold Wt
 rw[xd (show sm f.nZ=true from Hn) (show 8≤8388608 by omega)]
 rfl
def Qw (k_:nm→α) (f:nm):α:=
 bif DZ true (sm f.nZ) then
  k_ (⟨f.Qe,f.nN,qY f.nZ⟩:nm)
 else jX
theorem ZQ (k_:nm→α) (f:nm) (aI:U6 f=true):Qw jX k_ f=k_ (qY f):=by
 have Hn:U6 f=true:=aI
 unfold Qw
 rw[show sm f.nZ=true from Hn]
 rfl
def Wh (k_:ni→α) (t:ni):α:=
 bif DZ true (pK 56 [] t.nr) then
  k_ t
 else jX
def na3 (t:ni):Bool:=sm t.nr
theorem nf1 (k_:ni→α) (t:ni) (aI:na3 t=true):Wh jX k_ t=k_ (qY t):=by
 have Hn:na3 t=true:=aI
 unfold Wh
 rw[xd (show sm t.nr=true from Hn) (show 56≤8388608 by omega)]
 rfl
def RX (k_:ni→α) (t:ni):α:=
 bif DZ true (pK 56 [] t.nr) then
  k_ t
 else jX
theorem nbk (k_:ni→α) (t:ni) (aI:na3 t=true):RX jX k_ t=k_ (qY t):=by
 have Hn:na3 t=true:=aI
 unfold RX
 rw[xd (show sm t.nr=true from Hn) (show 56≤8388608 by omega)]
 rfl
def Qz (k_:nz→α) (s:nz):α:=
 bif DZ true (sm s.Table) then
  k_ (⟨s.Key,qY s.Table⟩:nz)
 else jX
def nio (s:nz):Bool:=sm s.Table
theorem ZT (k_:nz→α) (s:nz) (aI:nio s=true):Qz jX k_ s=k_ (qY s):=by
 have Hn:nio s=true:=aI
 unfold Qz
 rw[show sm s.Table=true from Hn]
 rfl
def Wm (k_:nj→α) (s:nj):α:=
 bif DZ (DZ (DZ true (pK 72 [] s.nP)) (na3 s.Table)) (pK 8 [] s.nG.Table) then
  k_ (⟨s.nP,qY s.Table,s.nG⟩:nj)
 else jX
def Rc (s:nj):Bool:=sm s.nP && (sm s.Table.nr && sm s.nG.Table)
theorem nf6 (k_:nj→α) (s:nj) (aI:Rc s=true):Wm jX k_ s=k_ (qY s):=by
 have Hn:Rc s=true:=aI
 unfold Wm
 simp only[Rc,Bool.and_eq_true] at Hn
 obtain⟨h1,h2,h3⟩:=Hn
 rw[xd h1 (show 72≤8388608 by omega),xd h3 (show 8≤8388608 by omega),show na3 s.Table=true from h2]
 rfl
def N0 (k_:nj→α) (s:nj):α:=
 bif DZ (DZ (DZ true (pK 72 [] s.nP)) (na3 s.Table)) (nio s.nG) then
  k_ (⟨s.nP,qY s.Table,qY s.nG⟩:nj)
 else jX
theorem WK (k_:nj→α) (s:nj) (aI:Rc s=true):N0 jX k_ s=k_ (qY s):=by
 have Hn:Rc s=true:=aI
 unfold N0
 simp only[Rc,Bool.and_eq_true] at Hn
 obtain⟨h1,h2,h3⟩:=Hn
 rw[xd h1 (show 72≤8388608 by omega),show na3 s.Table=true from h2,show nio s.nG=true from h3]
 rfl
structure qp where
 Op:Int
 Flags:Int
 Len:Int
 At:Int
 nK:Int
 Nx:Int
def qp.enc (x:qp):List DC:=[.int x.Op,.int x.Flags,.int x.Len,.int x.At,.int x.nK,.int x.Nx]
def qp.nh (r:List DC) (o:Nat):qp:=⟨rI r (o+0),rI r (o+1),rI r (o+2),rI r (o+3),rI r (o+4),rI r (o+5)⟩
def qp.ct:List CT:=[.i,.i,.i,.i,.i,.i]
theorem qp.eta {r:List DC} (h:jV qp.ct r):(qp.nh r 0).enc=r:=(show (qp.nh r 0).enc=rJ qp.ct r 0 from by kernel_rfl).trans (qm h)
theorem qp.nC {r:List CT} {ds:List DC} (h:jV (qp.ct++r) ds):∃(x:qp) (aW:List DC),ds=x.enc++aW∧jV qp.ct x.enc∧jV r aW:=by
 obtain⟨d1,d2,rfl,h1,h2⟩:=pj h
 exact⟨qp.nh d1 0,d2,by rw[qp.eta h1],by rw[qp.eta h1];exact h1,h2⟩
theorem qp.njO {x:qp} (h:jV qp.ct x.enc):GO .i (.int x.Flags):=oE 1 h rfl rfl
theorem qp.neB {x:qp} (h:jV qp.ct x.enc):GO .i (.int x.nK):=oE 4 h rfl rfl
theorem qp.njj {x:qp} (h:jV qp.ct x.enc):GO .i (.int x.Nx):=oE 5 h rfl rfl
theorem niN {r:ny} (h:sO r=true):tK r.nK=true∧vG r=(r.pM - r.Head) % (2*r.nK)∧vG r≤r.nK∧0≤r.Head∧r.Head<2*r.nK∧0≤r.pM∧r.pM<2*r.nK∧2≤r.nK∧r.nK≤16:=by
 have hs:=zY h
 unfold sO zS at h
 simp only[id] at h
 rw[nT (n:=2*r.nK) (by omega) (by omega),nT (n:=2*r.nK - 1) (by omega) (by omega)] at h
 cases h1:tK r.nK
 ·rw[h1] at h
  revert h
  cases nx r.oB 0 130944<;>simp
 cases h2:nx r.Head 0 (2*r.nK - 1)
 ·rw[h1,h2] at h
  revert h
  cases nx r.oB 0 130944<;>simp
 cases h3:nx r.pM 0 (2*r.nK - 1)
 ·rw[h1,h2,h3] at h
  revert h
  cases nx r.oB 0 130944<;>simp
 rw[h1,h2,h3] at h
 have h4:vG r≤r.nK:=by
  revert h
  cases nx r.oB 0 130944<;>simp
 have a:=oX.1 h2
 have b:=oX.1 h3
 refine⟨rfl, ?_,h4, ?_⟩
 ·unfold vG
  rw[h1]
  rfl
 ·omega
def uO {α:Type} (k_:Int→α) (r:ny):α:=
 bif !(sO r) then k_ 0
 else k_ (nR (r.nK - (vG r)))
def rG (r:ny):Int:=uO id r
theorem TG {α:Type} (k_:Int→α) (r:ny):uO k_ r=k_ (rG r):=by
 exact JR rfl rfl
def Nf {α:Type} (k_:Int→α) (p:nt) (k:Int):α:=
 bif bif !(tP p) then true else !(nx k 0 (nR (p.Count - 1))) then k_ (-1)
 else k_ (nR (p.oB+(nR (k*p.nK))))
def px (p:nt) (k:Int):Int:=Nf id p k
theorem Nd {α:Type} (k_:Int→α) (p:nt) (k:Int):Nf k_ p k=k_ (px p k):=by
 exact JR rfl rfl
def Xc {α:Type} (k_:Bool→α) (x:qp):α:=
 k_ (bif nx x.Op 0 3 then bif nx x.Flags 0 3 then bif nx x.Len 0 65535 then bif nx x.nK 0 65535 then bif nx x.Nx 0 65535 then nx x.At 0 4294967295 else false else false else false else false else false)
def nhv (x:qp):Bool:=Xc id x
theorem Xb {α:Type} (k_:Bool→α) (x:qp):Xc k_ x=k_ (nhv x):=by
 rfl
def OM (k_:Int→α) (r:ny) (count:Int):α:=
 bif bif !(sO r) then true else decide (count<0) then k_ (-1)
 else bif DZ true (!(r.nK==0)) then
   k_ (nR (r.oB+(nR ((Int.tmod count r.nK)*16))))
  else jX
def qB (r:ny) (count:Int):Int:=bif bif !(sO r) then true else decide (count<0) then -1 else nR (r.oB+nR (Int.tmod count r.nK*16))
theorem Yg (k_:Int→α) (r:ny) (count:Int):OM jX k_ r count=k_ (qB r count):=by
 unfold OM qB
 refine qv (fun _=>rfl) (fun hg=> ?_)
 have hr:sO r=true:=by
  revert hg
  cases sO r<;>simp
 have hs:=zY hr
 have hz:(!(r.nK==0))=true:=by simp;omega
 simp only[hz,nk,cond_true]
def PO (k_:Int→α) (r:ny) (count:Int):α:=
 bif bif !(sO r) then true else decide (count<0) then k_ (-1)
 else bif DZ true (!(r.nK==0)) then
   k_ (nR (r.oB+(nR (16*(Int.tmod count r.nK)))))
  else jX
theorem Y9 (k_:Int→α) (r:ny) (count:Int):PO jX k_ r count=k_ (qB r count):=by
 unfold PO qB
 refine qv (fun _=>rfl) (fun hg=> ?_)
 have hr:sO r=true:=by
  revert hg
  cases sO r<;>simp
 have hs:=zY hr
 have hz:(!(r.nK==0))=true:=by simp;omega
 simp only[hz,nk,cond_true,Int.mul_comm 16]
def Qm (k_:Bytes→α) (x:qp):α:=
 let z0:Bytes:=(toStr ([[.int (IntKind.wrap .u8 x.Op)],[.int (IntKind.wrap .u8 x.Flags)]]))++(zg x.Len)
 let z1:Bytes:=z0++(Rd x.At)
 let z2:Bytes:=z1++(zg x.nK)
 let z3:Bytes:=z2++(zg x.Nx)
 bif !(nhv x) then k_ []
 else bif DZ (DZ (DZ (DZ (DZ true (wZ (toStr ([[.int (IntKind.wrap .u8 x.Op)],[.int (IntKind.wrap .u8 x.Flags)]])) (zg x.Len))) (wZ z0 (Rd x.At))) (wZ z1 (zg x.nK))) (wZ z2 (zg x.Nx))) (wZ z3 (Rd 0)) then
   k_ (z3++(Rd 0))
  else jX
def qO (x:qp):Bytes:=bif !(nhv x) then [] else toStr ([[.int (IntKind.wrap .u8 x.Op)],[.int (IntKind.wrap .u8 x.Flags)]])++zg x.Len++Rd x.At++zg x.nK++zg x.Nx++Rd 0
theorem Ql (k_:Bytes→α) (x:qp):Qm jX k_ x=k_ (qO x):=by
 have a:=X6 x.Len
 have b:=neF x.At
 have c:=X6 x.nK
 have d:=X6 x.Nx
 have e:=neF 0
 unfold Qm qO
 refine qv (fun _=>rfl) (fun hg=> ?_)
 refine rb (by simp only[f0,wZ,ss,List.length_append,njg,List.length_cons,List.length_nil,decide_eq_true_eq,true_and,and_true];omega) rfl
theorem nht:∀(m a:Nat) (s:Bytes) (l:Rows),(ncu m a s l).length=l.length
 | 0,_,_,_=>rfl
 | m+1,a,s,l=>by
  unfold ncu
  cases decide (0<s.length)
  ·rfl
  ·rw[cond_true,nht m]
   simp [zP]
theorem na8 (m:na) (a:Int) (s:Bytes):(pc m a s).1.nF.length=m.nF.length:=by
 unfold pc
 cases !(within m a (len s))
 ·exact nht _ _ _ _
 ·rfl
theorem nho:∀(r:Rows) (s:Bytes) (l:Rows),(ng5 r s l).length=l.length
 | [],_,_=>rfl
 | r::rs,s,l=>by
  unfold ng5
  rw[nho rs,na8]
theorem nij (l:Rows) (m:na) (d a:Int) (s:Bytes) (w:Bool):(put l m d a s w).1.nF.length=m.nF.length:=by
 unfold put
 cases !(rl l m d a (len s) w).2
 ·exact nho _ _ _
 ·rfl
theorem nkx {l:Rows} {m:na} {d a:Int} {s:Bytes} {w:Bool} (h:(put l m d a s w).2=false):(put l m d a s w).1=m:=by
 unfold put at h ⊢
 cases hr:(rl l m d a (len s) w).2
 ·rfl
 ·rw[hr] at h;cases h
def Vg (k_:na→ny→Bool→α) (nc:Rows) (m:na) (domain:Int) (r:ny) (entry:Bytes):α:=
 let z0:na×Bool:=qE nc m domain (qB r r.pM) entry
 bif bif (rG r)==0 then true else (len entry) != 16 then
  bif DZ true (xc m) then
   k_ (qY m) r false
  else jX
 else bif DZ true (sF nc m domain (qB r r.pM) entry) then
   bif !z0.2 then k_ z0.1 r false
   else bif DZ true (!((nR (2*r.nK))==0)) then
     k_ z0.1 (⟨r.oB,r.nK,r.Head,Int.tmod (nR (r.pM+1)) (nR (2*r.nK))⟩:ny) true
    else jX
  else jX
def xG {α:Type} (nc:Rows) (m:na) (domain:Int) (r:ny) (entry:α):Bool:=sm m.nF
def qq (nc:Rows) (m:na) (domain:Int) (r:ny) (entry:Bytes):na×ny×Bool:=
 bif bif (rG r)==0 then true else (len entry) != 16 then (m,r,false)
 else bif !(qE nc m domain (qB r r.pM) entry).2 then (m,r,false)
 else ((qE nc m domain (qB r r.pM) entry).1,⟨r.oB,r.nK,r.Head,Int.tmod (nR (r.pM+1)) (nR (2*r.nK))⟩,true)
theorem S8 (nc:Rows) (m:na) (domain:Int) (r:ny) (entry:Bytes):(qq nc m domain r entry).1.nF.length=m.nF.length:=by
 unfold qq
 cases (bif (rG r)==0 then true else (len entry) != 16)
 ·cases !(qE nc m domain (qB r r.pM) entry).2
  ·exact nij _ _ _ _ _ _
  ·rfl
 ·rfl
theorem neU (k_:na→ny→Bool→α) (nc:Rows) (m:na) (domain:Int) (r:ny) (entry:Bytes) (aI:xG nc m domain r entry=true):Vg jX k_ nc m domain r entry=k_ (qq nc m domain r entry).1 (qq nc m domain r entry).2.1 (qq nc m domain r entry).2.2:=by
 have hm:xc m=true:=aI
 have hdw:∀a,sF nc m domain a entry=true:=fun a=>aI
 unfold Vg qq
 dsimp only
 refine qv (K:=fun r:na×ny×Bool=>k_ r.1 r.2.1 r.2.2) (fun _=>by rw[hm];rfl) (fun hg=> ?_)
 rw[hdw]
 simp only[nk,cond_true]
 have hr:sO r=true:=by
  revert hg
  unfold rG uO
  cases sO r<;>simp
 have hs:=zY hr
 have hz:(!((nR (2*r.nK))==0))=true:=by
  rw[nT (by omega) (by omega)]
  simp;omega
 refine qv (K:=fun r:na×ny×Bool=>k_ r.1 r.2.1 r.2.2) (fun hn=> ?_) (fun _=>by rw[hz];rfl)
 have hn:(qE nc m domain (qB r r.pM) entry).2=false:=by simpa using hn
 rw[show (qE nc m domain (qB r r.pM) entry).1=m from nkx hn]
def V5 (k_:na→ny→Bool→α) (nc:Rows) (m:na) (domain:Int) (r:ny) (entry:Bytes):α:=
 let z0:na×Bool:=qE nc m domain (qB r r.pM) entry
 bif bif (rG r)==0 then true else (len entry) != 16 then
  bif DZ true (xc m) then
   k_ (qY m) r false
  else jX
 else bif DZ true (sF nc m domain (qB r r.pM) entry) then
   bif !z0.2 then
    bif DZ true (xc m) then
     k_ (qY m) r false
    else jX
   else bif DZ true (!((nR (2*r.nK))==0)) then
     k_ z0.1 (⟨r.oB,r.nK,r.Head,Int.tmod (nR (r.pM+1)) (nR (2*r.nK))⟩:ny) true
    else jX
  else jX
theorem nfR (k_:na→ny→Bool→α) (nc:Rows) (m:na) (domain:Int) (r:ny) (entry:Bytes) (aI:xG nc m domain r entry=true):V5 jX k_ nc m domain r entry=k_ (qq nc m domain r entry).1 (qq nc m domain r entry).2.1 (qq nc m domain r entry).2.2:=by
 have hm:xc m=true:=aI
 have hdw:∀a,sF nc m domain a entry=true:=fun a=>aI
 unfold V5 qq
 dsimp only
 refine qv (K:=fun r:na×ny×Bool=>k_ r.1 r.2.1 r.2.2) (fun _=>by rw[hm];rfl) (fun hg=> ?_)
 rw[hdw]
 simp only[nk,cond_true]
 have hr:sO r=true:=by
  revert hg
  unfold rG uO
  cases sO r<;>simp
 have hs:=zY hr
 have hz:(!((nR (2*r.nK))==0))=true:=by
  rw[nT (by omega) (by omega)]
  simp;omega
 refine qv (K:=fun r:na×ny×Bool=>k_ r.1 r.2.1 r.2.2) (fun hn=> ?_) (fun _=>by rw[hz];rfl)
 rw[hm];rfl
theorem njE {b:Bool} (h:(!b)=false):b=true:=by cases b<;>simp_all
theorem um {b:Bool} (h:b=true):DZ true b=true:=by rw[h];rfl
def zj (k_:Int→α) (x:Int) (oA:Rows) (ox:Int→Int→α) (n ot:Int):α:=
 bif decide (ot<x) then
  bif DZ (DZ true (idx ot oA)) (inl (Int.toNat ot) oA) then
   bif DZ true (yh (rI (nth oA (Int.toNat ot)) 0) 8) then
    ox (nR (n+(Tf (rI (nth oA (Int.toNat ot)) 0) 8))) (nR (ot+1))
   else jX
  else jX
 else k_ (Int.tmod n 8)
def rK (k_:Int→α) (N:Nat) (x:Int) (oA:Rows) (m_:Nat):Int→Int→α:=
 Nat.rec (motive:=fun _=>Int→Int→α) (fun _ _=>jX) (fun _ ox=>zj jX k_ x oA ox) m_
theorem OI (k_:Int→α) (N:Nat) (x:Int) (oA:Rows) (m_:Nat):rK jX k_ N x oA (m_+1)=zj jX k_ x oA (rK jX k_ N x oA m_):=rfl
def ND {α:Type} (jX:α) (k_:Int→α) (l0:Int→Rows→Int→Int→α) (f:nD):α:=
 l0 5 ([[.int f.Kind],[.int f.qC],[.int f.ru],[.int f.oW],[.int f.oV]]) 0 0
def TB (k_:Int→α) (N:Nat) (f:nD):α:=ND jX k_ (fun x oA=>rK jX k_ N x oA N) f
def hmL (f:nD):Rows:=[[.int f.Kind],[.int f.qC],[.int f.ru],[.int f.oW],[.int f.oV]]
def hmN (f:nD):Int:=f.Kind % 8+f.qC % 8+f.ru % 8+f.oW % 8+f.oV % 8
def pk (f:nD):Int:=hmN f % 8
theorem ncw (f:nD):0≤hmN f:=by unfold hmN;omega
theorem S7 (f:nD):0≤pk f∧pk f<8:=by unfold pk;omega
theorem ncv (f:nD):itN (fun i s=>s+(rI (nth (hmL f) i) 0) % 8) 5 0 0=hmN f:=by
 show 0+f.Kind % 8+f.qC % 8+f.ru % 8+f.oW % 8+f.oV % 8=hmN f
 unfold hmN
 omega
theorem ncP (k_:Int→α) (f:nD) (h_f:jV nD.ct f.enc):∃N,TB jX k_ N f=k_ (pk f):=by
 have hb:∀i,i<5→ -9223372036854775808≤rI (nth (hmL f) i) 0∧rI (nth (hmL f) i) 0≤9223372036854775807:=by
  intro i hi
  rcases i with _ | _ | _ | _ | _ | i
  ·exact vW (nD.neA h_f)
  ·exact vW (nD.na6 h_f)
  ·exact vW (nD.ngl h_f)
  ·exact vW (nD.Zk h_f)
  ·exact vW (nD.Zj h_f)
  ·omega
 refine⟨6, ?_⟩
 unfold TB ND
 have key:rK jX k_ 6 5 (hmL f) 6 0 0=k_ (Int.tmod (itN (fun i s=>s+(rI (nth (hmL f) i) 0) % 8) 5 0 0) 8):=by
  refine xa 5 (fun n i s=>rK jX k_ 6 5 (hmL f) n s i) (fun i s=>s+(rI (nth (hmL f) i) 0) % 8) (fun s=>k_ (Int.tmod s 8)) (fun i s=>0≤s∧s≤7*(i:Int)) ?_ ?_ ?_ 6 0 ⟨by omega,by omega⟩ (by omega)
  ·intro i s hi hs
   obtain⟨h1,h2⟩:=hs
   refine⟨by omega,by omega⟩
  ·intro n i s hi hs
   obtain⟨h1,h2⟩:=hs
   have b:=hb i hi
   show rK jX k_ 6 5 (hmL f) (n+1) s (i:Int)=_
   rw[OI]
   have hl:i<(hmL f).length:=hi
   have w1:nR ((i:Int)+1)=(i:Int)+1:=nT (by omega) (by omega)
   have w2:nR (s+(rI (nth (hmL f) i) 0) % 8)=s+(rI (nth (hmL f) i) 0) % 8:=nT (by omega) (by omega)
   obtain⟨m1,m2⟩:=Tg (x:=rI (nth (hmL f) i) 0) (n:=8) b.1 b.2 (by omega) (by omega)
   have hd:decide ((i:Int)<5)=true:=decide_eq_true (by omega)
   simp only[zj,hd,oa hl,tf hl,Int.toNat_natCast,m1,m2,w1,w2,nk,nn,cond_true]
  ·intro n s hs
   show rK jX k_ 6 5 (hmL f) (n+1) s ((5:Nat):Int)=_
   rw[OI]
   rfl
 refine key.trans ?_
 rw[ncv]
 exact congrArg k_ (Int.tmod_eq_emod_of_nonneg (ncw f))
def zJ (k_:Int→α) (nc:Rows) (ox:Int→Int→α) (n k:Int):α:=
 bif decide (k<len nc) then
  bif DZ (DZ true (idx k nc)) (inl (Int.toNat k) nc) then
   ox (nR (n+(bits .and .i64 (rI (nth nc (Int.toNat k)) 0) 7))) (nR (k+1))
  else jX
 else k_ (Int.tmod n 8)
def rL (k_:Int→α) (N:Nat) (nc:Rows) (m_:Nat):Int→Int→α:=
 Nat.rec (motive:=fun _=>Int→Int→α) (fun _ _=>jX) (fun _ ox=>zJ jX k_ nc ox) m_
theorem PK (k_:Int→α) (N:Nat) (nc:Rows) (m_:Nat):rL jX k_ N nc (m_+1)=zJ jX k_ nc (rL jX k_ N nc m_):=rfl
def NS {α:Type} (jX:α) (k_:Int→α) (l0:Rows→Int→Int→α) (f:nD):α:=
 l0 ([[.int f.Kind],[.int f.qC],[.int f.ru],[.int f.oW],[.int f.oV]]) 0 0
def UG (k_:Int→α) (N:Nat) (f:nD):α:=NS jX k_ (fun nc=>rL jX k_ N nc N) f
theorem nd3 (k_:Int→α) (f:nD) (h_f:jV nD.ct f.enc):∃N,UG jX k_ N f=k_ (pk f):=by
 have hb:∀i,i<5→ -9223372036854775808≤rI (nth (hmL f) i) 0∧rI (nth (hmL f) i) 0≤9223372036854775807:=by
  intro i hi
  rcases i with _ | _ | _ | _ | _ | i
  ·exact vW (nD.neA h_f)
  ·exact vW (nD.na6 h_f)
  ·exact vW (nD.ngl h_f)
  ·exact vW (nD.Zk h_f)
  ·exact vW (nD.Zj h_f)
  ·omega
 refine⟨6, ?_⟩
 unfold UG NS
 have key:rL jX k_ 6 (hmL f) 6 0 0=k_ (Int.tmod (itN (fun i s=>s+(rI (nth (hmL f) i) 0) % 8) 5 0 0) 8):=by
  refine xa 5 (fun n i s=>rL jX k_ 6 (hmL f) n s i) (fun i s=>s+(rI (nth (hmL f) i) 0) % 8) (fun s=>k_ (Int.tmod s 8)) (fun i s=>0≤s∧s≤7*(i:Int)) ?_ ?_ ?_ 6 0 ⟨by omega,by omega⟩ (by omega)
  ·intro i s hi hs
   obtain⟨h1,h2⟩:=hs
   refine⟨by omega,by omega⟩
  ·intro n i s hi hs
   obtain⟨h1,h2⟩:=hs
   have b:=hb i hi
   show rL jX k_ 6 (hmL f) (n+1) s (i:Int)=_
   rw[PK]
   have hl:i<(hmL f).length:=hi
   have w1:nR ((i:Int)+1)=(i:Int)+1:=nT (by omega) (by omega)
   have w2:nR (s+(rI (nth (hmL f) i) 0) % 8)=s+(rI (nth (hmL f) i) 0) % 8:=nT (by omega) (by omega)
   have hd:decide ((i:Int)<len (hmL f))=true:=pf hl
   simp only[zJ,hd,oa hl,tf hl,Int.toNat_natCast,nkg,w1,w2,nk,nn,cond_true]
  ·intro n s hs
   show rL jX k_ 6 (hmL f) (n+1) s ((5:Nat):Int)=_
   rw[PK]
   rfl
 refine key.trans ?_
 rw[ncv]
 exact congrArg k_ (Int.tmod_eq_emod_of_nonneg (ncw f))
def yH (k_:Int→α) (x:Rows) (ot vf Ny tW Oz OA:Int) (ox:Int→α) (oA:Int):α:=
 bif decide (oA<ot) then
  bif DZ true (idx oA x) then
   bif bif (rI (nth x (Int.toNat oA)) 0)==1 then bif (rI (nth x (Int.toNat oA)) 1)==vf then bif (rI (nth x (Int.toNat oA)) 2)==Ny then bif (rI (nth x (Int.toNat oA)) 3)==tW then bif (rI (nth x (Int.toNat oA)) 4)==Oz then bif (rI (nth x (Int.toNat oA)) 5)==OA then true else false else false else false else false else false else false then k_ oA
   else ox (nR (oA+1))
  else jX
 else k_ (-1)
def vO (k_:Int→α) (N:Nat) (x:Rows) (ot vf Ny tW Oz OA:Int) (m_:Nat):Int→α:=
 Nat.rec (motive:=fun _=>Int→α) (fun _=>jX) (fun _ ox=>yH jX k_ x ot vf Ny tW Oz OA ox) m_
theorem RZ (k_:Int→α) (N:Nat) (x:Rows) (ot vf Ny tW Oz OA:Int) (m_:Nat):vO jX k_ N x ot vf Ny tW Oz OA (m_+1)=yH jX k_ x ot vf Ny tW Oz OA (vO jX k_ N x ot vf Ny tW Oz OA m_):=rfl
def Rs {α:Type} (jX:α) (k_:Int→α) (l0:Rows→Int→Int→Int→Int→Int→Int→Int→α) (t:ni) (f:nD):α:=
 l0 t.nr (len t.nr) f.Kind f.qC f.ru f.oW f.oV 0
def Xy (k_:Int→α) (N:Nat) (t:ni) (f:nD):α:=Rs jX k_ (fun x ot vf Ny tW Oz OA=>vO jX k_ N x ot vf Ny tW Oz OA N) t f
def tV (r:List DC) (f:nD):Bool:=bif (rI r 0)==1 then bif (rI r 1)==f.Kind then bif (rI r 2)==f.qC then bif (rI r 3)==f.ru then bif (rI r 4)==f.oW then bif (rI r 5)==f.oV then true else false else false else false else false else false else false
def Y4 (t:ni) (f:nD):Int:=findIdx (fun _ r=>tV r f) t.nr 0
theorem ngE (k_:Int→α) (t:ni) (f:nD) (h_t:jV ni.ct t.enc):∃N,Xy jX k_ N t f=k_ (Y4 t f):=by
 obtain⟨hl,_⟩:=oU (ni.Qc h_t)
 refine⟨t.nr.length+1, ?_⟩
 unfold Xy Rs Y4
 have key:vO jX k_ (t.nr.length+1) t.nr (len t.nr) f.Kind f.qC f.ru f.oW f.oV (t.nr.length+1) 0=k_ (findIdx (fun _ r=>tV r f) t.nr 0):=by
  refine (qo t.nr (vO jX k_ (t.nr.length+1) t.nr (len t.nr) f.Kind f.qC f.ru f.oW f.oV) (fun i r c=>bif tV r f then k_ (i:Int) else c) (k_ (-1)) ?_ ?_).trans ?_
  ·intro n i h
   rw[RZ]
   simp only[yH,pf h,oa h,ov h hl,Int.toNat_natCast,nk,nn,cond_true]
   rfl
  ·intro n
   rw[RZ]
   simp only[yH,nS,cond_false]
  ·exact Ta (fun _ r=>tV r f) k_ t.nr 0
 exact key
def NV (k_:Int→α) (sK:Rows) (vf Ny tW Oz OA:Int) (ox:Int→α) (k:Int):α:=
 let z0:Int:=Int.tmod (nR ((pk (⟨vf,Ny,tW,Oz,OA⟩:nD))+k)) 8
 let z1:Bool:=idx z0 sK
 let z2:Bool:=DZ true z1
 let z3:List DC:=nth sK (Int.toNat z0)
 let z4:Int:=rI z3 0
 let z5:Bool:=z4==1
 bif decide (k<8) then
  bif z2 then
   bif z4==0 then k_ (-1)
   else bif LG z5 (DZ z2 z1) z2 then
     bif bif z5 then bif (rI z3 1)==vf then bif (rI z3 2)==Ny then bif (rI z3 3)==tW then bif (rI z3 4)==Oz then bif (rI z3 5)==OA then true else false else false else false else false else false else false then k_ z0
     else ox (nR (k+1))
    else jX
  else jX
 else k_ (-1)
def sk (k_:Int→α) (N:Nat) (sK:Rows) (vf Ny tW Oz OA:Int) (m_:Nat):Int→α:=
 Nat.rec (motive:=fun _=>Int→α) (fun _=>jX) (fun _ ox=>NV jX k_ sK vf Ny tW Oz OA ox) m_
theorem Ra (k_:Int→α) (N:Nat) (sK:Rows) (vf Ny tW Oz OA:Int) (m_:Nat):sk jX k_ N sK vf Ny tW Oz OA (m_+1)=NV jX k_ sK vf Ny tW Oz OA (sk jX k_ N sK vf Ny tW Oz OA m_):=rfl
def PZ {α:Type} (jX:α) (k_:Int→α) (l0:Rows→Int→Int→Int→Int→Int→Int→α) (t:ni) (f:nD):α:=
 l0 t.nr f.Kind f.qC f.ru f.oW f.oV 0
def Wl (k_:Int→α) (N:Nat) (t:ni) (f:nD):α:=PZ jX k_ (fun sK vf Ny tW Oz OA=>sk jX k_ N sK vf Ny tW Oz OA N) t f
def niY (t:ni) (_:nD):Bool:=decide (t.nr.length=8)
def nhM (t:Rows) (h:Int) (f:nD):Nat→Nat→Int
 | 0,_=> -1
 | m+1,k=>bif (rI (nth t (Int.toNat ((h+(k:Int)) % 8))) 0)==0 then -1 else bif tV (nth t (Int.toNat ((h+(k:Int)) % 8))) f then (h+(k:Int)) % 8 else nhM t h f m (k+1)
def Te (t:ni) (f:nD):Int:=nhM t.nr (pk f) f 8 0
theorem nju {α:Type} (k_:Int→α) (t:Rows) (h:Int) (f:nD):∀(m i:Nat),ncz (σ:=Unit) (fun k c s=>bif (rI (nth t (Int.toNat ((h+(k:Int)) % 8))) 0)==0 then k_ (-1) else bif tV (nth t (Int.toNat ((h+(k:Int)) % 8))) f then k_ ((h+(k:Int)) % 8) else c s) (fun _=>k_ (-1)) m i ()=k_ (nhM t h f m i)
 | 0,_=>rfl
 | m+1,i=>by
  simp only[ncz,nhM]
  cases (rI (nth t (Int.toNat ((h+(i:Int)) % 8))) 0)==0
  ·cases tV (nth t (Int.toNat ((h+(i:Int)) % 8))) f
   ·exact nju k_ t h f m (i+1)
   ·rfl
  ·rfl
theorem nf3 (k_:Int→α) (t:ni) (f:nD) (aI:niY t f=true):∃N,Wl jX k_ N t f=k_ (Te t f):=by
 have h8:t.nr.length=8:=of_decide_eq_true aI
 have hh:=S7 f
 refine⟨9, ?_⟩
 unfold Wl PZ Te
 have key:sk jX k_ 9 t.nr f.Kind f.qC f.ru f.oW f.oV 9 0=k_ (nhM t.nr (pk f) f 8 0):=by
  refine (nib (σ:=Unit) 8 (fun n k _=>sk jX k_ 9 t.nr f.Kind f.qC f.ru f.oW f.oV n k) (fun k c s=>bif (rI (nth t.nr (Int.toNat ((pk f+(k:Int)) % 8))) 0)==0 then k_ (-1) else bif tV (nth t.nr (Int.toNat ((pk f+(k:Int)) % 8))) f then k_ ((pk f+(k:Int)) % 8) else c s) (fun _=>k_ (-1)) ?_ ?_ 9 () (by omega)).trans (nju k_ t.nr (pk f) f 8 0)
  ·intro n i s hi
   show sk jX k_ 9 t.nr f.Kind f.qC f.ru f.oW f.oV (n+1) (i:Int)=_
   rw[Ra]
   have hd:decide ((i:Int)<8)=true:=decide_eq_true (by omega)
   have w1:nR ((i:Int)+1)=(i:Int)+1:=nT (by omega) (by omega)
   have hz:Int.tmod (nR (pk f+(i:Int))) 8=(pk f+(i:Int)) % 8:=by
    rw[nT (by omega) (by omega)]
    exact Int.tmod_eq_emod_of_nonneg (by omega)
   have hx:idx ((pk f+(i:Int)) % 8) t.nr=true:=by
    simp only[idx,Bool.and_eq_true,decide_eq_true_eq,h8]
    omega
   have hf:(⟨f.Kind,f.qC,f.ru,f.oW,f.oV⟩:nD)=f:=rfl
   unfold NV
   simp only[hf,hd,hz,hx,w1,nk,nn,nb9,cond_true]
   rfl
  ·intro n s
   show sk jX k_ 9 t.nr f.Kind f.qC f.ru f.oW f.oV (n+1) ((8:Nat):Int)=_
   rw[Ra]
   rfl
 exact key
def Rt (k_:Rows→α) (vf Ny tW Oz OA:Int) (ox:Int→Rows→α) (i:Int) (su:Rows):α:=
 bif decide (i<8) then
  bif DZ true (pK 8 su ([[.int (Int.tmod (nR ((pk (⟨vf,Ny,tW,Oz,OA⟩:nD))+i)) 8)]])) then
   ox (nR (i+1)) (su++([[.int (Int.tmod (nR ((pk (⟨vf,Ny,tW,Oz,OA⟩:nD))+i)) 8)]]))
  else jX
 else k_ su
def tQ (k_:Rows→α) (N:Nat) (vf Ny tW Oz OA:Int) (m_:Nat):Int→Rows→α:=
 Nat.rec (motive:=fun _=>Int→Rows→α) (fun _ _=>jX) (fun _ ox=>Rt jX k_ vf Ny tW Oz OA ox) m_
theorem TV (k_:Rows→α) (N:Nat) (vf Ny tW Oz OA:Int) (m_:Nat):tQ jX k_ N vf Ny tW Oz OA (m_+1)=Rt jX k_ vf Ny tW Oz OA (tQ jX k_ N vf Ny tW Oz OA m_):=rfl
def Td {α:Type} (jX:α) (k_:Rows→α) (l0:Int→Int→Int→Int→Int→Int→Rows→α) (f:nD):α:=
 l0 f.Kind f.qC f.ru f.oW f.oV 0 []
def Z4 (k_:Rows→α) (N:Nat) (f:nD):α:=Td jX k_ (fun vf Ny tW Oz OA=>tQ jX k_ N vf Ny tW Oz OA N) f
def nj_ (h:Int) (i:Nat) (o:Rows):Rows:=o++[[.int ((h+(i:Int)) % 8)]]
def Om (f:nD):Rows:=itN (nj_ (pk f)) 8 0 []
theorem nhJ (k_:Rows→α) (f:nD):∃N,Z4 jX k_ N f=k_ (Om f):=by
 have hh:=S7 f
 refine⟨9, ?_⟩
 unfold Z4 Td Om
 have key:tQ jX k_ 9 f.Kind f.qC f.ru f.oW f.oV 9 0 []=k_ (itN (nj_ (pk f)) 8 0 []):=by
  refine xa 8 (fun n i o=>tQ jX k_ 9 f.Kind f.qC f.ru f.oW f.oV n i o) (nj_ (pk f)) k_ (fun i o=>o.length=i) ?_ ?_ ?_ 9 [] rfl (by omega)
  ·intro i o hi ho
   simp only[nj_,List.length_append,List.length_cons,List.length_nil,ho]
  ·intro n i o hi ho
   show tQ jX k_ 9 f.Kind f.qC f.ru f.oW f.oV (n+1) (i:Int) o=_
   rw[TV]
   have hd:decide ((i:Int)<8)=true:=decide_eq_true (by omega)
   have w1:nR ((i:Int)+1)=(i:Int)+1:=nT (by omega) (by omega)
   have hz:Int.tmod (nR (pk f+(i:Int))) 8=(pk f+(i:Int)) % 8:=by
    rw[nT (by omega) (by omega)]
    exact Int.tmod_eq_emod_of_nonneg (by omega)
   have hf:(⟨f.Kind,f.qC,f.ru,f.oW,f.oV⟩:nD)=f:=rfl
   have hr:pK 8 o [[.int ((pk f+(i:Int)) % 8)]]=true:=sb (by simp only[List.length_cons,List.length_nil];omega) (by omega)
   unfold Rt
   simp only[hf,hd,hz,hr,w1,nk,nn,cond_true]
   rfl
  ·intro n o ho
   show tQ jX k_ 9 f.Kind f.qC f.ru f.oW f.oV (n+1) ((8:Nat):Int) o=_
   rw[TV]
   rfl
 exact key
def uP (k_:Bool→α) (l1:Int→Int→Int→Rows→Int→α) (x:Rows) (ot:Int) (sK:Rows) (ox:Int→α) (oA:Int):α:=
 let z0:Rows:=Om (nD.nh (nth x (Int.toNat oA)) 1)
 bif decide (oA<ot) then
  bif DZ true (idx oA x) then
   bif bif !(nx (rI (nth x (Int.toNat oA)) 0) 0 2) then true else !(nx (rI (nth x (Int.toNat oA)) 6) 0 3) then k_ false
   else bif (rI (nth x (Int.toNat oA)) 0) != 1 then
    bif bif !(bif (rI (nth x (Int.toNat oA)) 1)==0 then bif (rI (nth x (Int.toNat oA)) 2)==0 then bif (rI (nth x (Int.toNat oA)) 3)==0 then bif (rI (nth x (Int.toNat oA)) 4)==0 then bif (rI (nth x (Int.toNat oA)) 5)==0 then true else false else false else false else false else false) then true else (rI (nth x (Int.toNat oA)) 6) != 0 then k_ false
    else ox (nR (oA+1))
   else bif (Y4 (⟨sK⟩:ni) (nD.nh (nth x (Int.toNat oA)) 1)) != oA then k_ false
   else l1 oA oA (len z0) z0 0
  else jX
 else k_ true
def uQ (k_:Bool→α) (ox:Int→α) (oA Qh x_6:Int) (sK x_8:Rows) (ih1:Int→α) (x_7:Int):α:=
 bif decide (x_7<x_6) then
  bif DZ (DZ true (idx x_7 x_8)) (inl (Int.toNat x_7) x_8) then
   bif (rI (nth x_8 (Int.toNat x_7)) 0)==oA then ox (nR (Qh+1))
   else bif DZ true (idx (rI (nth x_8 (Int.toNat x_7)) 0) sK) then
     bif (rI (nth sK (Int.toNat (rI (nth x_8 (Int.toNat x_7)) 0))) 0)==0 then k_ false
     else ih1 (nR (x_7+1))
    else jX
  else jX
 else ox (nR (Qh+1))
def sf (k_:Bool→α) (N:Nat) (ox:Int→α) (oA Qh x_6:Int) (sK x_8:Rows) (m_:Nat):Int→α:=
 Nat.rec (motive:=fun _=>Int→α) (fun _=>jX) (fun _ ih1=>uQ jX k_ ox oA Qh x_6 sK x_8 ih1) m_
theorem Qv (k_:Bool→α) (N:Nat) (ox:Int→α) (oA Qh x_6:Int) (sK x_8:Rows) (m_:Nat) (x_7:Int):sf jX k_ N ox oA Qh x_6 sK x_8 (m_+1) x_7=uQ jX k_ ox oA Qh x_6 sK x_8 (sf jX k_ N ox oA Qh x_6 sK x_8 m_) x_7:=rfl
def ry (k_:Bool→α) (N:Nat) (x:Rows) (ot:Int) (sK:Rows) (m_:Nat):Int→α:=
 Nat.rec (motive:=fun _=>Int→α) (fun _=>jX) (fun _ ox=>uP jX k_ (fun oA Qh x_6 x_8=>sf jX k_ N ox oA Qh x_6 sK x_8 N) x ot sK ox) m_
theorem Qu (k_:Bool→α) (N:Nat) (x:Rows) (ot:Int) (sK:Rows) (m_:Nat) (oA:Int):ry jX k_ N x ot sK (m_+1) oA=uP jX k_ (fun oA Qh x_6 x_8=>sf jX k_ N (ry jX k_ N x ot sK m_) oA Qh x_6 sK x_8 N) x ot sK (ry jX k_ N x ot sK m_) oA:=rfl
def yC {α:Type} (jX:α) (k_:Bool→α) (l0:Rows→Int→Rows→Int→α) (t:ni):α:=
 bif (len t.nr) != 8 then k_ false
 else l0 t.nr (len t.nr) t.nr 0
def yB (k_:Bool→α) (N:Nat) (t:ni):α:=yC jX k_ (fun x ot sK=>ry jX k_ N x ot sK N) t
theorem S9 {p:Nat→List DC→Bool} :∀ {l:Rows} {s:Nat},pr p l s=false→∀i,i<l.length→p (s+i) (nth l i)=false
 | [],_,_,i,h=>by simp at h
 | r::rs,s,h,i,hi=>by
  simp only[pr] at h
  cases hp:p s r
  ·rw[hp,cond_false] at h
   cases i with
   | zero=>exact hp
   | succ i=>
    have:=S9 h i (by simpa using hi)
    rw[show s+(i+1)=s+1+i by omega]
    exact this
  ·rw[hp] at h
   cases h
theorem X9 {p:Nat→List DC→Bool} :∀ {l:Rows} {s:Nat},(∀i,i<l.length→p (s+i) (nth l i)=false)→pr p l s=false
 | [],_,_=>rfl
 | r::rs,s,h=>by
  simp only[pr]
  rw[show p s r=false from h 0 (by simp),cond_false]
  exact X9 (fun i hi=>by
   have:=h (i+1) (by simpa using hi)
   rw[show s+1+i=s+(i+1) by omega]
   exact this)
def nct (t:Rows) (i:Int):Rows→Bool
 | []=>false
 | r::rs=>bif (rI r 0)==i then false else bif (rI (nth t (Int.toNat (rI r 0))) 0)==0 then true else nct t i rs
theorem njv {α:Type} (t:Rows) (x:Int) (A B:α):∀(l:Rows) (j:Nat),wW (σ:=Unit) (fun _ r c s=>bif (rI r 0)==x then A else bif (rI (nth t (Int.toNat (rI r 0))) 0)==0 then B else c s) (fun _=>A) l j ()=bif nct t x l then B else A
 | [],_=>rfl
 | r::rs,j=>by
  simp only[wW,nct]
  cases (rI r 0)==x
  ·cases (rI (nth t (Int.toNat (rI r 0))) 0)==0
   ·exact njv t x A B rs (j+1)
   ·rfl
  ·rfl
def nhu (r:List DC):Bool:=bif (rI r 1)==0 then bif (rI r 2)==0 then bif (rI r 3)==0 then bif (rI r 4)==0 then bif (rI r 5)==0 then true else false else false else false else false else false
def Ww (r:List DC):Bool:=bif !(nx (rI r 0) 0 2) then true else !(nx (rI r 6) 0 3)
def Y3 (t:Rows) (i:Nat) (r:List DC):Bool:=bif Ww r then true else bif (rI r 0) != 1 then bif !(nhu r) then true else (rI r 6) != 0 else bif (Y4 (⟨t⟩:ni) (nD.nh r 1)) != (i:Int) then true else nct t (i:Int) (Om (nD.nh r 1))
def nfJ (t:Rows) (i:Nat) (r:List DC):Bool:=bif Ww r then true else bif (rI r 0) != 1 then bif (rI r 6) != 0 then true else !(nhu r) else (Te (⟨t⟩:ni) (nD.nh r 1)) != (i:Int)
def vY (t:ni):Bool:=bif (len t.nr) != 8 then false else bif pr (Y3 t.nr) t.nr 0 then false else true
def niQ (t:Rows) (h i:Int):Nat→Nat→Bool
 | 0,_=>false
 | m+1,k=>bif (h+(k:Int)) % 8==i then false else bif (rI (nth t (Int.toNat ((h+(k:Int)) % 8))) 0)==0 then true else niQ t h i m (k+1)
theorem nhs (t:Rows) (i:Int) (f:nD):nct t i (Om f)=niQ t (pk f) i 8 0:=rfl
theorem Qb {r:List DC} {f:nD} :tV r f=true↔rI r 0=1∧nD.nh r 1=f:=by
 cases f with
 | mk a b c d e=>
  simp only[tV,nD.nh,nD.mk.injEq]
  by_cases h0:rI r 0=1
  ·by_cases h1:rI r 1=a
   ·by_cases h2:rI r 2=b
    ·by_cases h3:rI r 3=c
     ·by_cases h4:rI r 4=d
      ·by_cases h5:rI r 5=e
       ·simp [h0,h1,h2,h3,h4,h5]
       ·simp [h0,h1,h2,h3,h4,h5]
      ·simp [h0,h1,h2,h3,h4]
     ·simp [h0,h1,h2,h3]
    ·simp [h0,h1,h2]
   ·simp [h0,h1]
  ·simp [h0]
theorem nit {r:List DC} (h:rI r 0=1):tV r (nD.nh r 1)=true:=Qb.2 ⟨h,rfl⟩
theorem niu {t:Rows} {h:Int} {f:nD} {i:Nat} (hi:i<8) (h1:rI (nth t i) 0=1) (hf:nD.nh (nth t i) 1=f)
  (hu:∀j,j<8→tV (nth t j) f=true→j=i):∀(m k:Nat),(∃d,d<m∧(h+(k:Int)+(d:Int)) % 8=(i:Int))→niQ t h (i:Int) m k=false→nhM t h f m k=(i:Int)
 | 0,k,⟨d,hd,_⟩,_=>by omega
 | m+1,k,⟨d,hd,he⟩,hw=>by
  unfold nhM
  unfold niQ at hw
  by_cases hk:(h+(k:Int)) % 8=(i:Int)
  ·rw[hk,Int.toNat_natCast]
   have e0:((rI (nth t i) 0)==0)=false:=by rw[h1];rfl
   rw[e0,Qb.2 ⟨h1,hf⟩]
   rfl
  ·have e1:((h+(k:Int)) % 8==(i:Int))=false:=by simpa using hk
   rw[e1,cond_false] at hw
   cases e0:(rI (nth t (Int.toNat ((h+(k:Int)) % 8))) 0)==0
   ·rw[e0,cond_false] at hw
    cases e2:tV (nth t (Int.toNat ((h+(k:Int)) % 8))) f
    ·simp only[cond_false]
     refine niu hi h1 hf hu m (k+1) ⟨d - 1, ?_, ?_⟩ hw
     ·rcases d with _ | d
      ·exact absurd (by simpa using he) hk
      ·omega
     ·rcases d with _ | d
      ·exact absurd (by simpa using he) hk
      ·rw[←he]
       congr 1
       omega
    ·have:=hu _ (by omega) e2
     exact absurd (by omega) hk
   ·rw[e0] at hw
    cases hw
theorem nhY {t:Rows} {h:Int} {f:nD} {i:Nat} :∀(m k:Nat),nhM t h f m k=(i:Int)→niQ t h (i:Int) m k=false
 | 0,_,_=>rfl
 | m+1,k,hl=>by
  unfold nhM at hl
  unfold niQ
  cases e1:((h+(k:Int)) % 8==(i:Int))
  ·cases e0:(rI (nth t (Int.toNat ((h+(k:Int)) % 8))) 0)==0
   ·rw[e0,cond_false] at hl
    cases e2:tV (nth t (Int.toNat ((h+(k:Int)) % 8))) f
    ·rw[e2,cond_false] at hl
     exact nhY m (k+1) hl
    ·rw[e2,cond_true] at hl
     have:((h+(k:Int)) % 8==(i:Int))=true:=by simpa using hl
     rw[e1] at this
     cases this
   ·rw[e0,cond_true] at hl
    omega
  ·rfl
theorem ni3 {t:Rows} {i:Nat} (h:i<t.length) (h1:rI (nth t i) 0=1):(Y4 (⟨t⟩:ni) (nD.nh (nth t i) 1) != (i:Int))=vI (fun j=>tV (nth t j) (nD.nh (nth t i) 1)) i 0:=by
 have:=Ya (fun _ r=>tV r (nD.nh (nth t i) 1)) t 0 i h (nit h1)
 rw[Nat.zero_add] at this
 exact this
theorem S_ {p:Nat→Bool} :∀ {m s:Nat},vI p m s=false↔∀j,s≤j→j<s+m→p j=false
 | 0,s=>by simp only[vI,true_iff];intro j h1 h2;omega
 | m+1,s=>by
  simp only[vI]
  cases hp:p s
  ·simp only[cond_false]
   rw[S_]
   constructor
   ·intro h j h1 h2
    by_cases hj:j=s
    ·rw[hj];exact hp
    ·exact h j (by omega) (by omega)
   ·intro h j h1 h2
    exact h j (by omega) (by omega)
  ·simp only[cond_true]
   constructor
   ·intro h;cases h
   ·intro h
    have:=h s (by omega) (by omega)
    rw[hp] at this
    cases this
theorem nje {t:Rows} (h8:t.length=8):pr (nfJ t) t 0=pr (Y3 t) t 0:=by
 have zc:∀r:List DC,(bif !(nhu r) then true else (rI r 6) != 0)=(bif (rI r 6) != 0 then true else !(nhu r)):=by
  intro r
  cases nhu r<;>cases ((rI r 6) != 0)<;>rfl
 have sI:∀i,Y3 t i (nth t i)=false→rI (nth t i) 0=1→Ww (nth t i)=false∧vI (fun j=>tV (nth t j) (nD.nh (nth t i) 1)) i 0=false∧niQ t (pk (nD.nh (nth t i) 1)) (i:Int) 8 0=false∨¬i<t.length:=by
  intro i h h1
  by_cases hi:i<t.length
  ·left
   unfold Y3 at h
   have e1:((rI (nth t i) 0) != 1)=false:=by rw[h1];rfl
   rw[e1,ni3 hi h1,nhs] at h
   cases hs:Ww (nth t i)
   ·rw[hs] at h
    simp only[cond_false] at h
    refine⟨rfl, ?_⟩
    cases ha:vI (fun j=>tV (nth t j) (nD.nh (nth t i) 1)) i 0
    ·rw[ha,cond_false] at h
     exact⟨rfl,h⟩
    ·rw[ha] at h;cases h
   ·rw[hs] at h;cases h
  ·exact .inr hi
 have sS:∀i,i<t.length→nfJ t i (nth t i)=false→rI (nth t i) 0=1→Ww (nth t i)=false∧Te (⟨t⟩:ni) (nD.nh (nth t i) 1)=(i:Int):=by
  intro i hi h h1
  unfold nfJ at h
  have e1:((rI (nth t i) 0) != 1)=false:=by rw[h1];rfl
  rw[e1] at h
  cases hs:Ww (nth t i)
  ·rw[hs] at h
   simp only[cond_false] at h
   exact⟨rfl,by simpa using h⟩
  ·rw[hs] at h;cases h
 cases hI:pr (Y3 t) t 0
 ·have hI:=S9 hI
  simp only[Nat.zero_add] at hI
  refine X9 (fun i hi=> ?_)
  rw[Nat.zero_add]
  by_cases h1:rI (nth t i) 0=1
  ·rcases sI i (hI i hi) h1 with ⟨a,b,c⟩ | h
   ·have hu:∀j,j<8→tV (nth t j) (nD.nh (nth t i) 1)=true→j=i:=by
     intro j hj hq
     obtain⟨j1,j2⟩:=Qb.1 hq
     rcases Nat.lt_trichotomy j i with cl | rfl | FG
     ·have:=S_.1 b j (by omega) (by omega)
      rw[hq] at this
      cases this
     ·rfl
     ·rcases sI j (hI j (by omega)) j1 with ⟨_,b',_⟩ | h
      ·have:=S_.1 b' i (by omega) (by omega)
       rw[Qb.2 ⟨h1,j2.symm⟩] at this
       cases this
      ·omega
    have hf:Te (⟨t⟩:ni) (nD.nh (nth t i) 1)=(i:Int):=by
     have hh:=S7 (nD.nh (nth t i) 1)
     refine niu (by omega) h1 rfl hu 8 0 ⟨(((i:Int) - pk (nD.nh (nth t i) 1)) % 8).toNat,by omega,by omega⟩ c
    unfold nfJ
    rw[a,hf,h1]
    simp
   ·exact absurd hi h
  ·have:=hI i hi
   unfold Y3 at this
   unfold nfJ
   have e1:((rI (nth t i) 0) != 1)=true:=by simpa using h1
   rw[e1] at this ⊢
   rw[zc] at this
   exact this
 ·cases hS:pr (nfJ t) t 0
  ·have hS:=S9 hS
   simp only[Nat.zero_add] at hS
   have:pr (Y3 t) t 0=false:=by
    refine X9 (fun i hi=> ?_)
    rw[Nat.zero_add]
    by_cases h1:rI (nth t i) 0=1
    ·obtain⟨a,b⟩:=sS i hi (hS i hi) h1
     have hu:vI (fun j=>tV (nth t j) (nD.nh (nth t i) 1)) i 0=false:=by
      refine S_.2 (fun j _ hj=> ?_)
      cases hq:tV (nth t j) (nD.nh (nth t i) 1)
      ·rfl
      ·obtain⟨j1,j2⟩:=Qb.1 hq
       have:=(sS j (by omega) (hS j (by omega)) j1).2
       rw[j2,b] at this
       omega
     unfold Y3
     have e1:((rI (nth t i) 0) != 1)=false:=by rw[h1];rfl
     rw[a,e1,ni3 hi h1,hu,nhs,nhY 8 0 b]
     rfl
    ·have:=hS i hi
     unfold nfJ at this
     unfold Y3
     have e1:((rI (nth t i) 0) != 1)=true:=by simpa using h1
     rw[e1] at this ⊢
     rw[zc]
     exact this
   rw[hI] at this
   cases this
  ·rfl
theorem neZ (k_:Bool→α) (t:ni) (h_t:jV ni.ct t.enc):∃N,yB jX k_ N t=k_ (vY t):=by
 obtain⟨hl,_⟩:=oU (ni.Qc h_t)
 refine⟨t.nr.length+9, ?_⟩
 unfold yB yC vY
 refine qv (fun _=>rfl) (fun hg=> ?_)
 have h8:t.nr.length=8:=by
  have:len t.nr=8:=by simpa using hg
  simp only[len] at this
  omega
 have key:ry jX k_ (t.nr.length+9) t.nr (len t.nr) t.nr (t.nr.length+9) 0=bif pr (Y3 t.nr) t.nr 0 then k_ false else k_ true:=by
  refine (xY t.nr (ry jX k_ (t.nr.length+9) t.nr (len t.nr) t.nr) (fun i r c=>bif Y3 t.nr i r then k_ false else c) (k_ true) ?_ ?_ (t.nr.length+9) (by omega)).trans (v8 (Y3 t.nr) (k_ false) (k_ true) t.nr 0)
  ·intro n i h
   rw[Qu]
   have hc:∀z:Int,rI (nth t.nr i) 0=z→True:=fun _ _=>trivial
   have hw8:(Om (nD.nh (nth t.nr i) 1)).length=8:=rfl
   have inner:∀ih:Int→α,sf jX k_ (t.nr.length+9) ih (i:Int) (i:Int) (len (Om (nD.nh (nth t.nr i) 1))) t.nr (Om (nD.nh (nth t.nr i) 1)) (t.nr.length+9) 0=bif nct t.nr (i:Int) (Om (nD.nh (nth t.nr i) 1)) then k_ false else ih ((i:Int)+1):=by
    intro ih
    refine (xY (Om (nD.nh (nth t.nr i) 1)) (sf jX k_ (t.nr.length+9) ih (i:Int) (i:Int) (len (Om (nD.nh (nth t.nr i) 1))) t.nr (Om (nD.nh (nth t.nr i) 1))) (fun j r c=>bif (rI r 0)==(i:Int) then ih ((i:Int)+1) else bif (rI (nth t.nr (Int.toNat (rI r 0))) 0)==0 then k_ false else c) (ih ((i:Int)+1)) ?_ ?_ (t.nr.length+9) (by omega)).trans (njv t.nr (i:Int) (ih ((i:Int)+1)) (k_ false) (Om (nD.nh (nth t.nr i) 1)) 0)
    ·intro n j hj
     rw[Qv]
     have hx:idx (rI (nth (Om (nD.nh (nth t.nr i) 1)) j) 0) t.nr=true:=by
      have:rI (nth (Om (nD.nh (nth t.nr i) 1)) j) 0=(pk (nD.nh (nth t.nr i) 1)+(j:Int)) % 8:=by
       rw[hw8] at hj
       rcases j with _ | _ | _ | _ | _ | _ | _ | _ | j
       all_goals first | rfl | omega
      rw[this]
      simp only[idx,Bool.and_eq_true,decide_eq_true_eq,h8]
      omega
     have w1:nR ((i:Int)+1)=(i:Int)+1:=ov h hl
     have w2:nR ((j:Int)+1)=(j:Int)+1:=nT (by omega) (by omega)
     simp only[uQ,pf hj,oa hj,tf hj,hx,w1,w2,Int.toNat_natCast,nk,nn,cond_true]
    ·intro n
     rw[Qv]
     simp only[uQ,nS,cond_false,ov h hl]
   unfold uP
   simp only[inner,pf h,oa h,ov h hl,Int.toNat_natCast,nk,nn,cond_true]
   unfold Y3
   show (bif Ww (nth t.nr i) then k_ false else _)=_
   cases Ww (nth t.nr i)
   ·simp only[cond_false]
    cases ((rI (nth t.nr i) 0) != 1)
    ·simp only[cond_false]
     cases (Y4 (⟨t.nr⟩:ni) (nD.nh (nth t.nr i) 1) != (i:Int))<;>rfl
    ·rfl
   ·rfl
  ·intro n
   rw[Qu]
   simp only[uP,nS,cond_false]
 refine key.trans ?_
 exact JR rfl rfl
def xA (k_:Bool→α) (sK:Rows) (ox:Int→α) (k:Int):α:=
 bif decide (k<len sK) then
  bif DZ true (idx k sK) then
   bif bif !(nx (rI (nth sK (Int.toNat k)) 0) 0 2) then true else !(nx (rI (nth sK (Int.toNat k)) 6) 0 3) then k_ false
   else bif (rI (nth sK (Int.toNat k)) 0) != 1 then
    bif bif (rI (nth sK (Int.toNat k)) 6) != 0 then true else !(bif (rI (nth sK (Int.toNat k)) 1)==0 then bif (rI (nth sK (Int.toNat k)) 2)==0 then bif (rI (nth sK (Int.toNat k)) 3)==0 then bif (rI (nth sK (Int.toNat k)) 4)==0 then bif (rI (nth sK (Int.toNat k)) 5)==0 then true else false else false else false else false else false) then k_ false
    else ox (nR (k+1))
   else bif DZ true (niY (⟨sK⟩:ni) (nD.nh (nth sK (Int.toNat k)) 1)) then
     bif (Te (⟨sK⟩:ni) (nD.nh (nth sK (Int.toNat k)) 1)) != k then k_ false
     else ox (nR (k+1))
    else jX
  else jX
 else k_ true
def u0 (k_:Bool→α) (N:Nat) (sK:Rows) (m_:Nat):Int→α:=
 Nat.rec (motive:=fun _=>Int→α) (fun _=>jX) (fun _ ox=>xA jX k_ sK ox) m_
theorem QZ (k_:Bool→α) (N:Nat) (sK:Rows) (m_:Nat):u0 jX k_ N sK (m_+1)=xA jX k_ sK (u0 jX k_ N sK m_):=rfl
def PR {α:Type} (jX:α) (k_:Bool→α) (l0:Rows→Int→α) (t:ni):α:=
 bif (len t.nr) != 8 then k_ false
 else l0 t.nr 0
def Wc (k_:Bool→α) (N:Nat) (t:ni):α:=PR jX k_ (fun sK=>u0 jX k_ N sK N) t
theorem nfW (k_:Bool→α) (t:ni) (h_t:jV ni.ct t.enc):∃N,Wc jX k_ N t=k_ (vY t):=by
 obtain⟨hl,_⟩:=oU (ni.Qc h_t)
 refine⟨t.nr.length+1, ?_⟩
 unfold Wc PR vY
 refine qv (fun _=>rfl) (fun hg=> ?_)
 have h8:t.nr.length=8:=by
  have:len t.nr=8:=by simpa using hg
  simp only[len] at this
  omega
 have key:u0 jX k_ (t.nr.length+1) t.nr (t.nr.length+1) 0=bif pr (nfJ t.nr) t.nr 0 then k_ false else k_ true:=by
  refine (qo t.nr (u0 jX k_ (t.nr.length+1) t.nr) (fun i r c=>bif nfJ t.nr i r then k_ false else c) (k_ true) ?_ ?_).trans (v8 (nfJ t.nr) (k_ false) (k_ true) t.nr 0)
  ·intro n i h
   rw[QZ]
   have ho:niY (⟨t.nr⟩:ni) (nD.nh (nth t.nr i) 1)=true:=decide_eq_true h8
   simp only[xA,ho,pf h,oa h,ov h hl,Int.toNat_natCast,nk,nn,cond_true]
   unfold nfJ
   show (bif Ww (nth t.nr i) then k_ false else _)=_
   cases Ww (nth t.nr i)
   ·simp only[cond_false]
    cases ((rI (nth t.nr i) 0) != 1)
    ·rfl
    ·rfl
   ·rfl
  ·intro n
   rw[QZ]
   simp only[xA,nS,cond_false]
 refine key.trans ?_
 rw[nje h8]
 exact JR rfl rfl
def wj (k_:Bool→α) (nf:Int) (x:Rows) (ot:Int) (ox:Int→α) (oA:Int):α:=
 bif decide (oA<ot) then
  bif DZ true (idx oA x) then
   bif !(nx (rI (nth x (Int.toNat oA)) 0) 0 (nR (nf - 1))) then k_ false
   else ox (nR (oA+1))
  else jX
 else k_ true
def ue (k_:Bool→α) (N:Nat) (nf:Int) (x:Rows) (ot:Int) (m_:Nat):Int→α:=
 Nat.rec (motive:=fun _=>Int→α) (fun _=>jX) (fun _ ox=>wj jX k_ nf x ot ox) m_
theorem ON (k_:Bool→α) (N:Nat) (nf:Int) (x:Rows) (ot:Int) (m_:Nat):ue jX k_ N nf x ot (m_+1)=wj jX k_ nf x ot (ue jX k_ N nf x ot m_):=rfl
def NG {α:Type} (jX:α) (k_:Bool→α) (l0:Rows→Int→Int→α) (s:nz) (nf:Int):α:=
 bif bif !(nx nf 1 4) then true else bif (len s.Key) != 16 then true else !(S5 (len s.Table)) then k_ false
 else l0 s.Table (len s.Table) 0
def TM (k_:Bool→α) (N:Nat) (s:nz) (nf:Int):α:=NG jX k_ (fun x ot=>ue jX k_ N nf x ot N) s nf
def vH (s:nz) (nf:Int):Bool:=bif bif !(nx nf 1 4) then true else bif (len s.Key) != 16 then true else !(S5 (len s.Table)) then false
 else s.Table.all (fun r=>nx (rI r 0) 0 (nR (nf - 1)))
theorem nc3 (k_:Bool→α) (s:nz) (nf:Int) (h_s:jV nz.ct s.enc):∃N,TM jX k_ N s nf=k_ (vH s nf):=by
 obtain⟨hl,_⟩:=oU (nz.Qd h_s)
 refine⟨s.Table.length+1, ?_⟩
 unfold TM NG vH
 refine qv (fun _=>rfl) (fun _=> ?_)
 have key:ue jX k_ (s.Table.length+1) nf s.Table (len s.Table) (s.Table.length+1) 0=bif s.Table.all (fun r=>nx (rI r 0) 0 (nR (nf - 1))) then k_ true else k_ false:=by
  refine (qo s.Table (ue jX k_ (s.Table.length+1) nf s.Table (len s.Table)) (fun i r c=>bif !(nx (rI r 0) 0 (nR (nf - 1))) then k_ false else c) (k_ true) ?_ ?_).trans (Qj (fun r=>nx (rI r 0) 0 (nR (nf - 1))) (k_ false) (k_ true) s.Table 0)
  ·intro n i h
   rw[ON]
   simp only[wj,pf h,oa h,ov h hl,Int.toNat_natCast,nk,nn,cond_true]
  ·intro n
   rw[ON]
   simp only[wj,nS,cond_false]
 refine key.trans ?_
 cases s.Table.all (fun r=>nx (rI r 0) 0 (nR (nf - 1)))<;>rfl
def wM (k_:Bool→α) (nf:Int) (qK:Rows) (ox:Int→α) (k:Int):α:=
 bif decide (k<len qK) then
  bif DZ true (idx k qK) then
   bif !(nx (rI (nth qK (Int.toNat k)) 0) 0 (nR (nf - 1))) then k_ false
   else ox (nR (k+1))
  else jX
 else k_ true
def ug (k_:Bool→α) (N:Nat) (nf:Int) (qK:Rows) (m_:Nat):Int→α:=
 Nat.rec (motive:=fun _=>Int→α) (fun _=>jX) (fun _ ox=>wM jX k_ nf qK ox) m_
theorem PQ (k_:Bool→α) (N:Nat) (nf:Int) (qK:Rows) (m_:Nat):ug jX k_ N nf qK (m_+1)=wM jX k_ nf qK (ug jX k_ N nf qK m_):=rfl
def NU {α:Type} (jX:α) (k_:Bool→α) (l0:Rows→Int→α) (s:nz) (nf:Int):α:=
 bif bif !(nx nf 1 4) then true else bif (len s.Key) != 16 then true else !(S5 (len s.Table)) then k_ false
 else l0 s.Table 0
def UT (k_:Bool→α) (N:Nat) (s:nz) (nf:Int):α:=NU jX k_ (fun qK=>ug jX k_ N nf qK N) s nf
theorem neh (k_:Bool→α) (s:nz) (nf:Int) (h_s:jV nz.ct s.enc):∃N,UT jX k_ N s nf=k_ (vH s nf):=by
 obtain⟨hl,_⟩:=oU (nz.Qd h_s)
 refine⟨s.Table.length+1, ?_⟩
 unfold UT NU vH
 refine qv (fun _=>rfl) (fun _=> ?_)
 have key:ug jX k_ (s.Table.length+1) nf s.Table (s.Table.length+1) 0=bif s.Table.all (fun r=>nx (rI r 0) 0 (nR (nf - 1))) then k_ true else k_ false:=by
  refine (qo s.Table (ug jX k_ (s.Table.length+1) nf s.Table) (fun i r c=>bif !(nx (rI r 0) 0 (nR (nf - 1))) then k_ false else c) (k_ true) ?_ ?_).trans (Qj (fun r=>nx (rI r 0) 0 (nR (nf - 1))) (k_ false) (k_ true) s.Table 0)
  ·intro n i h
   rw[PQ]
   simp only[wM,pf h,oa h,ov h hl,Int.toNat_natCast,nk,nn,cond_true]
  ·intro n
   rw[PQ]
   simp only[wM,nS,cond_false]
 refine key.trans ?_
 cases s.Table.all (fun r=>nx (rI r 0) 0 (nR (nf - 1)))<;>rfl
def sQ (k_:Bool→α) (l1:Int→Int→α) (nf:Int) (x:Rows) (ot:Int) (qK:Rows) (ox:Int→α) (oA:Int):α:=
 bif decide (oA<ot) then
  bif DZ true (idx oA x) then
   bif bif (rI (nth x (Int.toNat oA)) 7)==0 then decide (nf≤rI (nth x (Int.toNat oA)) 8) else false then k_ false
   else ox (nR (oA+1))
  else jX
 else l1 (len qK) 0
def sR (k_:Bool→α) (nf:Int) (qK:Rows) (x_4:Int) (ih1:Int→α) (Qh:Int):α:=
 bif decide (Qh<x_4) then
  bif DZ true (idx Qh qK) then
   bif bif (rI (nth qK (Int.toNat Qh)) 0)==1 then decide (nf≤rI (nth qK (Int.toNat Qh)) 6) else false then k_ false
   else ih1 (nR (Qh+1))
  else jX
 else k_ true
def qQ (k_:Bool→α) (N:Nat) (nf:Int) (qK:Rows) (x_4:Int) (m_:Nat):Int→α:=
 Nat.rec (motive:=fun _=>Int→α) (fun _=>jX) (fun _ ih1=>sR jX k_ nf qK x_4 ih1) m_
theorem Ni (k_:Bool→α) (N:Nat) (nf:Int) (qK:Rows) (x_4:Int) (m_:Nat):qQ jX k_ N nf qK x_4 (m_+1)=sR jX k_ nf qK x_4 (qQ jX k_ N nf qK x_4 m_):=rfl
def qP (k_:Bool→α) (N:Nat) (nf:Int) (x:Rows) (ot:Int) (qK:Rows) (m_:Nat):Int→α:=
 Nat.rec (motive:=fun _=>Int→α) (fun _=>jX) (fun _ ox=>sQ jX k_ (fun x_4=>qQ jX k_ N nf qK x_4 N) nf x ot qK ox) m_
theorem Nh (k_:Bool→α) (N:Nat) (nf:Int) (x:Rows) (ot:Int) (qK:Rows) (m_:Nat) (oA:Int):qP jX k_ N nf x ot qK (m_+1) oA=sQ jX k_ (fun x_4=>qQ jX k_ N nf qK x_4 N) nf x ot qK (qP jX k_ N nf x ot qK m_) oA:=rfl
def vj {α:Type} (jX:α) (k_:Bool→α) (l0:Rows→Int→Rows→Int→α) (s:nj) (nf:Int):α:=
 bif bif !(On s.nP) then true else bif !(vY s.Table) then true else !(vH s.nG nf) then k_ false
 else l0 s.nP (len s.nP) s.Table.nr 0
def vi (k_:Bool→α) (N:Nat) (s:nj) (nf:Int):α:=vj jX k_ (fun x ot qK=>qP jX k_ N nf x ot qK N) s nf
def uk (s:nj) (nf:Int):Bool:=bif bif !(On s.nP) then true else bif !(vY s.Table) then true else !(vH s.nG nf) then false
 else bif s.nP.all (fun r=> !(decide (nf≤rI r 8))) then s.Table.nr.all (fun r=> !(decide (nf≤rI r 6))) else false
theorem X7 {p q:List DC→Bool} :∀ {l:Rows},(∀r∈l,p r=q r)→l.all p=l.all q
 | [],_=>rfl
 | r::rs,h=>by
  simp only[List.all_cons]
  rw[h r (by simp),X7 (fun x hx=>h x (by simp [hx]))]
theorem nhU {r:List DC} (h:zf (oy.nh r 0)=true) (h7:rI r 7≠0):rI r 8=0:=by
 unfold zf Ri at h
 simp only[id] at h
 have e7:((oy.nh r 0).Action==0)=false:=by
  show (rI r 7==0)=false
  simpa using h7
 rw[e7] at h
 simp only[cond_false] at h
 by_cases h1:rI r 8=0
 ·exact h1
 ·have e8:((oy.nh r 0).Queue==0)=false:=by
   show (rI r 8==0)=false
   simpa using h1
  rw[e8] at h
  revert h
  cases (oy.nh r 0).Action==1<;>simp
theorem nhw {t:ni} (h:vY t=true) {r:List DC} (hr:r∈t.nr) (h0:rI r 0≠1):rI r 6=0:=by
 unfold vY at h
 cases h1:(len t.nr) != 8
 ·rw[h1,cond_false] at h
  cases h2:pr (Y3 t.nr) t.nr 0
  ·obtain⟨i,hi,rfl⟩:=List.getElem_of_mem hr
   have:=S9 h2 i hi
   rw[Nat.zero_add] at this
   have hn:nth t.nr i=t.nr[i]:=by simp [nth,List.getD_eq_getElem?_getD,hi]
   rw[hn] at this
   unfold Y3 at this
   have e1:((rI t.nr[i] 0) != 1)=true:=by simpa using h0
   rw[e1] at this
   by_cases h6:rI t.nr[i] 6=0
   ·exact h6
   ·have e6:((rI t.nr[i] 6) != 0)=true:=by simpa using h6
    rw[e6] at this
    revert this
    cases Ww t.nr[i]<;>cases nhu t.nr[i]<;>simp
  ·rw[h2] at h;cases h
 ·rw[h1] at h;cases h
theorem na7 {s:nj} {nf:Int} (hg:(bif !(On s.nP) then true else bif !(vY s.Table) then true else !(vH s.nG nf))=false):
  (∀r∈s.nP,zf (oy.nh r 0)=true)∧vY s.Table=true∧1≤nf:=by
 cases h1:On s.nP
 ·rw[h1] at hg;cases hg
 cases h2:vY s.Table
 ·rw[h1,h2] at hg;cases hg
 cases h3:vH s.nG nf
 ·rw[h1,h2,h3] at hg;cases hg
 refine⟨?_,rfl, ?_⟩
 ·unfold On at h1
  cases h4:s.nP.all (fun r=>zf (oy.nh r 0))
  ·rw[h4] at h1;cases h1
  ·exact fun r hr=>by simpa using List.all_eq_true.1 h4 r hr
 ·unfold vH at h3
  cases h4:nx nf 1 4
  ·rw[h4] at h3;cases h3
  ·exact (oX.1 h4).1
theorem ZM (k_:Bool→α) (s:nj) (nf:Int) (h_s:jV nj.ct s.enc):∃N,vi jX k_ N s nf=k_ (uk s nf):=by
 obtain⟨hl,_⟩:=oU (nj.ngm h_s)
 obtain⟨jT,_⟩:=oU (ni.Qc (nj.Qd h_s))
 refine⟨s.nP.length+s.Table.nr.length+1, ?_⟩
 unfold vi vj uk
 refine qv (fun _=>rfl) (fun hg=> ?_)
 have niH:qQ jX k_ (s.nP.length+s.Table.nr.length+1) nf s.Table.nr (len s.Table.nr) (s.nP.length+s.Table.nr.length+1) 0=bif s.Table.nr.all (fun r=> !(bif (rI r 0)==1 then decide (nf≤rI r 6) else false)) then k_ true else k_ false:=by
  refine (xY s.Table.nr (qQ jX k_ (s.nP.length+s.Table.nr.length+1) nf s.Table.nr (len s.Table.nr)) (fun i r c=>bif !(!(bif (rI r 0)==1 then decide (nf≤rI r 6) else false)) then k_ false else c) (k_ true) ?_ ?_ (s.nP.length+s.Table.nr.length+1) (by omega)).trans (Qj (fun r=> !(bif (rI r 0)==1 then decide (nf≤rI r 6) else false)) (k_ false) (k_ true) s.Table.nr 0)
  ·intro n i h
   rw[Ni]
   simp only[sR,pf h,oa h,ov h jT,Int.toNat_natCast,nk,nn,cond_true,Bool.not_not]
  ·intro n
   rw[Ni]
   simp only[sR,nS,cond_false]
 have key:qP jX k_ (s.nP.length+s.Table.nr.length+1) nf s.nP (len s.nP) s.Table.nr (s.nP.length+s.Table.nr.length+1) 0=bif s.nP.all (fun r=> !(bif (rI r 7)==0 then decide (nf≤rI r 8) else false)) then (bif s.Table.nr.all (fun r=> !(bif (rI r 0)==1 then decide (nf≤rI r 6) else false)) then k_ true else k_ false) else k_ false:=by
  refine (xY s.nP (qP jX k_ (s.nP.length+s.Table.nr.length+1) nf s.nP (len s.nP) s.Table.nr) (fun i r c=>bif !(!(bif (rI r 7)==0 then decide (nf≤rI r 8) else false)) then k_ false else c) (bif s.Table.nr.all (fun r=> !(bif (rI r 0)==1 then decide (nf≤rI r 6) else false)) then k_ true else k_ false) ?_ ?_ (s.nP.length+s.Table.nr.length+1) (by omega)).trans (Qj (fun r=> !(bif (rI r 7)==0 then decide (nf≤rI r 8) else false)) (k_ false) _ s.nP 0)
  ·intro n i h
   rw[Nh]
   simp only[sQ,pf h,oa h,ov h hl,Int.toNat_natCast,nk,nn,cond_true,Bool.not_not]
  ·intro n
   rw[Nh]
   simp only[sQ,nS,cond_false]
   exact niH
 refine key.trans ?_
 obtain⟨g1,g2,g3⟩:=na7 hg
 rw[X7 (l:=s.nP) (q:=fun r=> !(decide (nf≤rI r 8))) (fun r hr=>by
  by_cases h7:rI r 7=0
  ·have e:((rI r 7)==0)=true:=by simpa using h7
   rw[e,cond_true]
  ·have e:((rI r 7)==0)=false:=by simpa using h7
   rw[e,cond_false,nhU (g1 r hr) h7,decide_eq_false (by omega)])]
 rw[X7 (l:=s.Table.nr) (q:=fun r=> !(decide (nf≤rI r 6))) (fun r hr=>by
  by_cases h7:rI r 0=1
  ·have e:((rI r 0)==1)=true:=by simpa using h7
   rw[e,cond_true]
  ·have e:((rI r 0)==1)=false:=by simpa using h7
   rw[e,cond_false,nhw g2 hr h7,decide_eq_false (by omega)])]
 cases s.nP.all (fun r=> !(decide (nf≤rI r 8)))
 ·rfl
 ·cases s.Table.nr.all (fun r=> !(decide (nf≤rI r 6)))<;>rfl
def tb (k_:Bool→α) (l1:Int→α) (nf:Int) (rP qK:Rows) (ox:Int→α) (k:Int):α:=
 bif decide (k<len rP) then
  bif DZ true (idx k rP) then
   bif decide (nf≤rI (nth rP (Int.toNat k)) 8) then k_ false
   else ox (nR (k+1))
  else jX
 else l1 0
def tc (k_:Bool→α) (nf:Int) (qK:Rows) (ih1:Int→α) (qu:Int):α:=
 bif decide (qu<len qK) then
  bif DZ true (idx qu qK) then
   bif decide (nf≤rI (nth qK (Int.toNat qu)) 6) then k_ false
   else ih1 (nR (qu+1))
  else jX
 else k_ true
def qS (k_:Bool→α) (N:Nat) (nf:Int) (qK:Rows) (m_:Nat):Int→α:=
 Nat.rec (motive:=fun _=>Int→α) (fun _=>jX) (fun _ ih1=>tc jX k_ nf qK ih1) m_
theorem Nu (k_:Bool→α) (N:Nat) (nf:Int) (qK:Rows) (m_:Nat):qS jX k_ N nf qK (m_+1)=tc jX k_ nf qK (qS jX k_ N nf qK m_):=rfl
def qR (k_:Bool→α) (N:Nat) (nf:Int) (rP qK:Rows) (m_:Nat):Int→α:=
 Nat.rec (motive:=fun _=>Int→α) (fun _=>jX) (fun _ ox=>tb jX k_ (qS jX k_ N nf qK N) nf rP qK ox) m_
theorem Nt (k_:Bool→α) (N:Nat) (nf:Int) (rP qK:Rows) (m_:Nat) (k:Int):qR jX k_ N nf rP qK (m_+1) k=tb jX k_ (qS jX k_ N nf qK N) nf rP qK (qR jX k_ N nf rP qK m_) k:=rfl
def vE {α:Type} (jX:α) (k_:Bool→α) (l0:Rows→Rows→Int→α) (s:nj) (nf:Int):α:=
 bif bif !(On s.nP) then true else bif !(vY s.Table) then true else !(vH s.nG nf) then k_ false
 else l0 s.nP s.Table.nr 0
def vD (k_:Bool→α) (N:Nat) (s:nj) (nf:Int):α:=vE jX k_ (fun rP qK=>qR jX k_ N nf rP qK N) s nf
theorem naY (k_:Bool→α) (s:nj) (nf:Int) (h_s:jV nj.ct s.enc):∃N,vD jX k_ N s nf=k_ (uk s nf):=by
 obtain⟨hl,_⟩:=oU (nj.ngm h_s)
 obtain⟨jT,_⟩:=oU (ni.Qc (nj.Qd h_s))
 refine⟨s.nP.length+s.Table.nr.length+1, ?_⟩
 unfold vD vE uk
 refine qv (fun _=>rfl) (fun hg=> ?_)
 have niH:qS jX k_ (s.nP.length+s.Table.nr.length+1) nf s.Table.nr (s.nP.length+s.Table.nr.length+1) 0=bif s.Table.nr.all (fun r=> !(decide (nf≤rI r 6))) then k_ true else k_ false:=by
  refine (xY s.Table.nr (qS jX k_ (s.nP.length+s.Table.nr.length+1) nf s.Table.nr) (fun i r c=>bif !(!(decide (nf≤rI r 6))) then k_ false else c) (k_ true) ?_ ?_ (s.nP.length+s.Table.nr.length+1) (by omega)).trans (Qj (fun r=> !(decide (nf≤rI r 6))) (k_ false) (k_ true) s.Table.nr 0)
  ·intro n i h
   rw[Nu]
   simp only[tc,pf h,oa h,ov h jT,Int.toNat_natCast,nk,nn,cond_true,Bool.not_not]
  ·intro n
   rw[Nu]
   simp only[tc,nS,cond_false]
 have key:qR jX k_ (s.nP.length+s.Table.nr.length+1) nf s.nP s.Table.nr (s.nP.length+s.Table.nr.length+1) 0=bif s.nP.all (fun r=> !(decide (nf≤rI r 8))) then (bif s.Table.nr.all (fun r=> !(decide (nf≤rI r 6))) then k_ true else k_ false) else k_ false:=by
  refine (xY s.nP (qR jX k_ (s.nP.length+s.Table.nr.length+1) nf s.nP s.Table.nr) (fun i r c=>bif !(!(decide (nf≤rI r 8))) then k_ false else c) (bif s.Table.nr.all (fun r=> !(decide (nf≤rI r 6))) then k_ true else k_ false) ?_ ?_ (s.nP.length+s.Table.nr.length+1) (by omega)).trans (Qj (fun r=> !(decide (nf≤rI r 8))) (k_ false) _ s.nP 0)
  ·intro n i h
   rw[Nt]
   simp only[tb,pf h,oa h,ov h hl,Int.toNat_natCast,nk,nn,cond_true,Bool.not_not]
  ·intro n
   rw[Nt]
   simp only[tb,nS,cond_false]
   exact niH
 refine key.trans ?_
 cases s.nP.all (fun r=> !(decide (nf≤rI r 8)))
 ·rfl
 ·cases s.Table.nr.all (fun r=> !(decide (nf≤rI r 6)))<;>rfl
end
end Go.Proofs.YtoaflbnkiobhdaaGreat.Pl
