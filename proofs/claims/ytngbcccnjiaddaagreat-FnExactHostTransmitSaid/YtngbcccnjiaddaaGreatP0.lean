/- Plain forms. Conditions: as each says. -/
import Derived.Test.YtngbcccnjiaddaaGreatPre
import Derived.Test.YtngbcccnjiaddaaGreatLem
import Derived.Test.YtngbcccnjiaddaaGreatDp
import Derived.Test.YtngbcccnjiaddaaGreatBit
set_option linter.unusedVariables false
set_option linter.unusedSimpArgs false
set_option maxRecDepth 100000
namespace Go.Proofs.YtngbcccnjiaddaaGreat.Pl
open Vm
noncomputable section
variable {α:Type} (jK:α)
structure nS where
 Kind:Int
 qC:Int
 rl:Int
 oX:Int
 oW:Int
def nS.enc (x:nS):List DC:=[.int x.Kind,.int x.qC,.int x.rl,.int x.oX,.int x.oW]
def nS.na (r:List DC) (o:Nat):nS:=⟨rI r (o+0),rI r (o+1),rI r (o+2),rI r (o+3),rI r (o+4)⟩
def nS.ct:List CT:=[.i,.i,.i,.i,.i]
theorem nS.eta {r:List DC} (h:jI nS.ct r):(nS.na r 0).enc=r:=(show (nS.na r 0).enc=sV nS.ct r 0 from by kernel_rfl).trans (rp h)
theorem nS.nB {r:List CT} {ds:List DC} (h:jI (nS.ct++r) ds):∃(x:nS) (aW:List DC),ds=x.enc++aW∧jI nS.ct x.enc∧jI r aW:=by
 obtain⟨d1,d2,rfl,h1,h2⟩:=qt h
 exact⟨nS.na d1 0,d2,by rw[nS.eta h1],by rw[nS.eta h1];exact h1,h2⟩
theorem nS.nrQ {x:nS} (h:jI nS.ct x.enc):Gk .i (.int x.Kind):=oD 0 h rfl rfl
theorem nS.nmz {x:nS} (h:jI nS.ct x.enc):Gk .i (.int x.qC):=oD 1 h rfl rfl
theorem nS.nui {x:nS} (h:jI nS.ct x.enc):Gk .i (.int x.rl):=oD 2 h rfl rfl
theorem nS.nkd {x:nS} (h:jI nS.ct x.enc):Gk .i (.int x.oX):=oD 3 h rfl rfl
theorem nS.nkb {x:nS} (h:jI nS.ct x.enc):Gk .i (.int x.oW):=oD 4 h rfl rfl
structure ra where
 State:Int
 Vc:nS
 Queue:Int
def ra.enc (x:ra):List DC:=[.int x.State,.int x.Vc.Kind,.int x.Vc.qC,.int x.Vc.rl,.int x.Vc.oX,.int x.Vc.oW,.int x.Queue]
def ra.na (r:List DC) (o:Nat):ra:=⟨rI r (o+0),nS.na r (o+1),rI r (o+6)⟩
def ra.ct:List CT:=[.i,.i,.i,.i,.i,.i,.i]
theorem ra.eta {r:List DC} (h:jI ra.ct r):(ra.na r 0).enc=r:=(show (ra.na r 0).enc=sV ra.ct r 0 from by kernel_rfl).trans (rp h)
theorem ra.nB {r:List CT} {ds:List DC} (h:jI (ra.ct++r) ds):∃(x:ra) (aW:List DC),ds=x.enc++aW∧jI ra.ct x.enc∧jI r aW:=by
 obtain⟨d1,d2,rfl,h1,h2⟩:=qt h
 exact⟨ra.na d1 0,d2,by rw[ra.eta h1],by rw[ra.eta h1];exact h1,h2⟩
theorem ra.nzg {x:ra} (h:jI ra.ct x.enc):jI nS.ct x.Vc.enc:=zd 1 5 h
theorem ra.nyX {x:ra} (h:jI ra.ct x.enc):Gk .i (.int x.Queue):=oD 6 h rfl rfl
structure nd where
 nV:Rows
def nd.enc (x:nd):List DC:=[.sl x.nV]
def nd.na (r:List DC) (o:Nat):nd:=⟨rR r (o+0)⟩
def nd.ct:List CT:=[.sl [.str]]
theorem nd.eta {r:List DC} (h:jI nd.ct r):(nd.na r 0).enc=r:=(show (nd.na r 0).enc=sV nd.ct r 0 from by kernel_rfl).trans (rp h)
theorem nd.nB {r:List CT} {ds:List DC} (h:jI (nd.ct++r) ds):∃(x:nd) (aW:List DC),ds=x.enc++aW∧jI nd.ct x.enc∧jI r aW:=by
 obtain⟨d1,d2,rfl,h1,h2⟩:=qt h
 exact⟨nd.na d1 0,d2,by rw[nd.eta h1],by rw[nd.eta h1];exact h1,h2⟩
theorem nd.xu {x:nd} (h:jI nd.ct x.enc):Gk (.sl [.str]) (.sl x.nV):=oD 0 h rfl rfl
structure nE where
 oR:Int
 nR:Int
 Count:Int
 py:Rows
def nE.enc (x:nE):List DC:=[.int x.oR,.int x.nR,.int x.Count,.sl x.py]
def nE.na (r:List DC) (o:Nat):nE:=⟨rI r (o+0),rI r (o+1),rI r (o+2),rR r (o+3)⟩
def nE.ct:List CT:=[.i,.i,.i,.sl [.i]]
theorem nE.eta {r:List DC} (h:jI nE.ct r):(nE.na r 0).enc=r:=(show (nE.na r 0).enc=sV nE.ct r 0 from by kernel_rfl).trans (rp h)
theorem nE.nB {r:List CT} {ds:List DC} (h:jI (nE.ct++r) ds):∃(x:nE) (aW:List DC),ds=x.enc++aW∧jI nE.ct x.enc∧jI r aW:=by
 obtain⟨d1,d2,rfl,h1,h2⟩:=qt h
 exact⟨nE.na d1 0,d2,by rw[nE.eta h1],by rw[nE.eta h1];exact h1,h2⟩
theorem nE.nxY {x:nE} (h:jI nE.ct x.enc):Gk .i (.int x.oR):=oD 0 h rfl rfl
theorem nE.nrT {x:nE} (h:jI nE.ct x.enc):Gk .i (.int x.nR):=oD 1 h rfl rfl
theorem nE.nuh {x:nE} (h:jI nE.ct x.enc):Gk .i (.int x.Count):=oD 2 h rfl rfl
theorem nE.nrP {x:nE} (h:jI nE.ct x.enc):Gk (.sl [.i]) (.sl x.py):=oD 3 h rfl rfl
structure pe where
 RI:Int
 nI:Int
 PU:Rows
def pe.enc (x:pe):List DC:=[.int x.RI,.int x.nI,.sl x.PU]
def pe.na (r:List DC) (o:Nat):pe:=⟨rI r (o+0),rI r (o+1),rR r (o+2)⟩
def pe.ct:List CT:=[.i,.i,.sl [.i]]
theorem pe.eta {r:List DC} (h:jI pe.ct r):(pe.na r 0).enc=r:=(show (pe.na r 0).enc=sV pe.ct r 0 from by kernel_rfl).trans (rp h)
theorem pe.nB {r:List CT} {ds:List DC} (h:jI (pe.ct++r) ds):∃(x:pe) (aW:List DC),ds=x.enc++aW∧jI pe.ct x.enc∧jI r aW:=by
 obtain⟨d1,d2,rfl,h1,h2⟩:=qt h
 exact⟨pe.na d1 0,d2,by rw[pe.eta h1],by rw[pe.eta h1];exact h1,h2⟩
theorem pe.nyf {x:pe} (h:jI pe.ct x.enc):Gk .i (.int x.RI):=oD 0 h rfl rfl
theorem pe.Xj {x:pe} (h:jI pe.ct x.enc):Gk .i (.int x.nI):=oD 1 h rfl rfl
theorem pe.nug {x:pe} (h:jI pe.ct x.enc):Gk (.sl [.i]) (.sl x.PU):=oD 2 h rfl rfl
structure ny where
 oR:Int
 nR:Int
 Head:Int
 pV:Int
def ny.enc (x:ny):List DC:=[.int x.oR,.int x.nR,.int x.Head,.int x.pV]
def ny.na (r:List DC) (o:Nat):ny:=⟨rI r (o+0),rI r (o+1),rI r (o+2),rI r (o+3)⟩
def ny.ct:List CT:=[.i,.i,.i,.i]
theorem ny.eta {r:List DC} (h:jI ny.ct r):(ny.na r 0).enc=r:=(show (ny.na r 0).enc=sV ny.ct r 0 from by kernel_rfl).trans (rp h)
theorem ny.nB {r:List CT} {ds:List DC} (h:jI (ny.ct++r) ds):∃(x:ny) (aW:List DC),ds=x.enc++aW∧jI ny.ct x.enc∧jI r aW:=by
 obtain⟨d1,d2,rfl,h1,h2⟩:=qt h
 exact⟨ny.na d1 0,d2,by rw[ny.eta h1],by rw[ny.eta h1];exact h1,h2⟩
theorem ny.nxY {x:ny} (h:jI ny.ct x.enc):Gk .i (.int x.oR):=oD 0 h rfl rfl
theorem ny.nrT {x:ny} (h:jI ny.ct x.enc):Gk .i (.int x.nR):=oD 1 h rfl rfl
theorem ny.nzh {x:ny} (h:jI ny.ct x.enc):Gk .i (.int x.Head):=oD 2 h rfl rfl
theorem ny.nzl {x:ny} (h:jI ny.ct x.enc):Gk .i (.int x.pV):=oD 3 h rfl rfl
structure ng where
 Ring:ny
 n7:nE
 ni:Rows
 Next:Int
def ng.enc (x:ng):List DC:=[.int x.Ring.oR,.int x.Ring.nR,.int x.Ring.Head,.int x.Ring.pV,.int x.n7.oR,.int x.n7.nR,.int x.n7.Count,.sl x.n7.py,.sl x.ni,.int x.Next]
def ng.na (r:List DC) (o:Nat):ng:=⟨ny.na r (o+0),nE.na r (o+4),rR r (o+8),rI r (o+9)⟩
def ng.ct:List CT:=[.i,.i,.i,.i,.i,.i,.i,.sl [.i],.sl [.i,.i,.sl [.i]],.i]
theorem ng.eta {r:List DC} (h:jI ng.ct r):(ng.na r 0).enc=r:=(show (ng.na r 0).enc=sV ng.ct r 0 from by kernel_rfl).trans (rp h)
theorem ng.nB {r:List CT} {ds:List DC} (h:jI (ng.ct++r) ds):∃(x:ng) (aW:List DC),ds=x.enc++aW∧jI ng.ct x.enc∧jI r aW:=by
 obtain⟨d1,d2,rfl,h1,h2⟩:=qt h
 exact⟨ng.na d1 0,d2,by rw[ng.eta h1],by rw[ng.eta h1];exact h1,h2⟩
theorem ng.nzk {x:ng} (h:jI ng.ct x.enc):jI ny.ct x.Ring.enc:=zd 0 4 h
theorem ng.nrS {x:ng} (h:jI ng.ct x.enc):jI nE.ct x.n7.enc:=zd 4 4 h
theorem ng.zF {x:ng} (h:jI ng.ct x.enc):Gk (.sl [.i,.i,.sl [.i]]) (.sl x.ni):=oD 8 h rfl rfl
theorem ng.nzj {x:ng} (h:jI ng.ct x.enc):Gk .i (.int x.Next):=oD 9 h rfl rfl
structure nz where
 Kind:Int
 oX:Int
 oW:Int
 Seq:Int
 Ack:Int
 Flags:Int
 uE:Int
 Body:Bytes
def nz.enc (x:nz):List DC:=[.int x.Kind,.int x.oX,.int x.oW,.int x.Seq,.int x.Ack,.int x.Flags,.int x.uE,.str x.Body]
def nz.na (r:List DC) (o:Nat):nz:=⟨rI r (o+0),rI r (o+1),rI r (o+2),rI r (o+3),rI r (o+4),rI r (o+5),rI r (o+6),rS r (o+7)⟩
def nz.ct:List CT:=[.i,.i,.i,.i,.i,.i,.i,.str]
theorem nz.eta {r:List DC} (h:jI nz.ct r):(nz.na r 0).enc=r:=(show (nz.na r 0).enc=sV nz.ct r 0 from by kernel_rfl).trans (rp h)
theorem nz.nB {r:List CT} {ds:List DC} (h:jI (nz.ct++r) ds):∃(x:nz) (aW:List DC),ds=x.enc++aW∧jI nz.ct x.enc∧jI r aW:=by
 obtain⟨d1,d2,rfl,h1,h2⟩:=qt h
 exact⟨nz.na d1 0,d2,by rw[nz.eta h1],by rw[nz.eta h1];exact h1,h2⟩
theorem nz.nrQ {x:nz} (h:jI nz.ct x.enc):Gk .i (.int x.Kind):=oD 0 h rfl rfl
theorem nz.nkd {x:nz} (h:jI nz.ct x.enc):Gk .i (.int x.oX):=oD 1 h rfl rfl
theorem nz.nkb {x:nz} (h:jI nz.ct x.enc):Gk .i (.int x.oW):=oD 2 h rfl rfl
theorem nz.nyW {x:nz} (h:jI nz.ct x.enc):Gk .i (.int x.Flags):=oD 5 h rfl rfl
theorem nz.nwA {x:nz} (h:jI nz.ct x.enc):Gk .str (.str x.Body):=oD 7 h rfl rfl
structure nk where
 xe:Int
 xf:Int
 sO:Int
 Tos:Int
 Id:Int
 Ttl:Int
 qC:Int
 rl:Int
 rZ:nz
def nk.enc (x:nk):List DC:=[.int x.xe,.int x.xf,.int x.sO,.int x.Tos,.int x.Id,.int x.Ttl,.int x.qC,.int x.rl,.int x.rZ.Kind,.int x.rZ.oX,.int x.rZ.oW,.int x.rZ.Seq,.int x.rZ.Ack,.int x.rZ.Flags,.int x.rZ.uE,.str x.rZ.Body]
def nk.na (r:List DC) (o:Nat):nk:=⟨rI r (o+0),rI r (o+1),rI r (o+2),rI r (o+3),rI r (o+4),rI r (o+5),rI r (o+6),rI r (o+7),nz.na r (o+8)⟩
def nk.ct:List CT:=[.i,.i,.i,.i,.i,.i,.i,.i,.i,.i,.i,.i,.i,.i,.i,.str]
theorem nk.eta {r:List DC} (h:jI nk.ct r):(nk.na r 0).enc=r:=(show (nk.na r 0).enc=sV nk.ct r 0 from by kernel_rfl).trans (rp h)
theorem nk.nB {r:List CT} {ds:List DC} (h:jI (nk.ct++r) ds):∃(x:nk) (aW:List DC),ds=x.enc++aW∧jI nk.ct x.enc∧jI r aW:=by
 obtain⟨d1,d2,rfl,h1,h2⟩:=qt h
 exact⟨nk.na d1 0,d2,by rw[nk.eta h1],by rw[nk.eta h1];exact h1,h2⟩
theorem nk.nx0 {x:nk} (h:jI nk.ct x.enc):Gk .i (.int x.sO):=oD 2 h rfl rfl
theorem nk.nz1 {x:nk} (h:jI nk.ct x.enc):Gk .i (.int x.Tos):=oD 3 h rfl rfl
theorem nk.nz_ {x:nk} (h:jI nk.ct x.enc):Gk .i (.int x.Id):=oD 4 h rfl rfl
theorem nk.nz2 {x:nk} (h:jI nk.ct x.enc):Gk .i (.int x.Ttl):=oD 5 h rfl rfl
theorem nk.nmz {x:nk} (h:jI nk.ct x.enc):Gk .i (.int x.qC):=oD 6 h rfl rfl
theorem nk.nui {x:nk} (h:jI nk.ct x.enc):Gk .i (.int x.rl):=oD 7 h rfl rfl
theorem nk.nzZ {x:nk} (h:jI nk.ct x.enc):jI nz.ct x.rZ.enc:=zd 8 8 h
structure pA where
 pI:nk
 nR:Int
 Count:Int
def pA.enc (x:pA):List DC:=[.int x.pI.xe,.int x.pI.xf,.int x.pI.sO,.int x.pI.Tos,.int x.pI.Id,.int x.pI.Ttl,.int x.pI.qC,.int x.pI.rl,.int x.pI.rZ.Kind,.int x.pI.rZ.oX,.int x.pI.rZ.oW,.int x.pI.rZ.Seq,.int x.pI.rZ.Ack,.int x.pI.rZ.Flags,.int x.pI.rZ.uE,.str x.pI.rZ.Body,.int x.nR,.int x.Count]
def pA.na (r:List DC) (o:Nat):pA:=⟨nk.na r (o+0),rI r (o+16),rI r (o+17)⟩
def pA.ct:List CT:=[.i,.i,.i,.i,.i,.i,.i,.i,.i,.i,.i,.i,.i,.i,.i,.str,.i,.i]
theorem pA.eta {r:List DC} (h:jI pA.ct r):(pA.na r 0).enc=r:=(show (pA.na r 0).enc=sV pA.ct r 0 from by kernel_rfl).trans (rp h)
theorem pA.nB {r:List CT} {ds:List DC} (h:jI (pA.ct++r) ds):∃(x:pA) (aW:List DC),ds=x.enc++aW∧jI pA.ct x.enc∧jI r aW:=by
 obtain⟨d1,d2,rfl,h1,h2⟩:=qt h
 exact⟨pA.na d1 0,d2,by rw[pA.eta h1],by rw[pA.eta h1];exact h1,h2⟩
theorem pA.nyg {x:pA} (h:jI pA.ct x.enc):jI nk.ct x.pI.enc:=zd 0 16 h
theorem pA.nrT {x:pA} (h:jI pA.ct x.enc):Gk .i (.int x.nR):=oD 16 h rfl rfl
theorem pA.nuh {x:pA} (h:jI pA.ct x.enc):Gk .i (.int x.Count):=oD 17 h rfl rfl
structure nr where
 oR:Int
 nR:Int
 Count:Int
def nr.enc (x:nr):List DC:=[.int x.oR,.int x.nR,.int x.Count]
def nr.na (r:List DC) (o:Nat):nr:=⟨rI r (o+0),rI r (o+1),rI r (o+2)⟩
def nr.ct:List CT:=[.i,.i,.i]
theorem nr.eta {r:List DC} (h:jI nr.ct r):(nr.na r 0).enc=r:=(show (nr.na r 0).enc=sV nr.ct r 0 from by kernel_rfl).trans (rp h)
theorem nr.nB {r:List CT} {ds:List DC} (h:jI (nr.ct++r) ds):∃(x:nr) (aW:List DC),ds=x.enc++aW∧jI nr.ct x.enc∧jI r aW:=by
 obtain⟨d1,d2,rfl,h1,h2⟩:=qt h
 exact⟨nr.na d1 0,d2,by rw[nr.eta h1],by rw[nr.eta h1];exact h1,h2⟩
theorem nr.nxY {x:nr} (h:jI nr.ct x.enc):Gk .i (.int x.oR):=oD 0 h rfl rfl
theorem nr.nrT {x:nr} (h:jI nr.ct x.enc):Gk .i (.int x.nR):=oD 1 h rfl rfl
theorem nr.nuh {x:nr} (h:jI nr.ct x.enc):Gk .i (.int x.Count):=oD 2 h rfl rfl
structure nP where
 Ring:ny
 Device:nr
 Driver:nr
 va:pA
 nkj:Bool
 nkh:Int
def nP.enc (x:nP):List DC:=[.int x.Ring.oR,.int x.Ring.nR,.int x.Ring.Head,.int x.Ring.pV,.int x.Device.oR,.int x.Device.nR,.int x.Device.Count,.int x.Driver.oR,.int x.Driver.nR,.int x.Driver.Count,.int x.va.pI.xe,.int x.va.pI.xf,.int x.va.pI.sO,.int x.va.pI.Tos,.int x.va.pI.Id,.int x.va.pI.Ttl,.int x.va.pI.qC,.int x.va.pI.rl,.int x.va.pI.rZ.Kind,.int x.va.pI.rZ.oX,.int x.va.pI.rZ.oW,.int x.va.pI.rZ.Seq,.int x.va.pI.rZ.Ack,.int x.va.pI.rZ.Flags,.int x.va.pI.rZ.uE,.str x.va.pI.rZ.Body,.int x.va.nR,.int x.va.Count,.bool x.nkj,.int x.nkh]
def nP.na (r:List DC) (o:Nat):nP:=⟨ny.na r (o+0),nr.na r (o+4),nr.na r (o+7),pA.na r (o+10),rB r (o+28),rI r (o+29)⟩
def nP.ct:List CT:=[.i,.i,.i,.i,.i,.i,.i,.i,.i,.i,.i,.i,.i,.i,.i,.i,.i,.i,.i,.i,.i,.i,.i,.i,.i,.str,.i,.i,.bool,.i]
theorem nP.eta {r:List DC} (h:jI nP.ct r):(nP.na r 0).enc=r:=(show (nP.na r 0).enc=sV nP.ct r 0 from by kernel_rfl).trans (rp h)
theorem nP.nB {r:List CT} {ds:List DC} (h:jI (nP.ct++r) ds):∃(x:nP) (aW:List DC),ds=x.enc++aW∧jI nP.ct x.enc∧jI r aW:=by
 obtain⟨d1,d2,rfl,h1,h2⟩:=qt h
 exact⟨nP.na d1 0,d2,by rw[nP.eta h1],by rw[nP.eta h1];exact h1,h2⟩
theorem nP.nzk {x:nP} (h:jI nP.ct x.enc):jI ny.ct x.Ring.enc:=zd 0 4 h
theorem nP.nzi {x:nP} (h:jI nP.ct x.enc):jI pA.ct x.va.enc:=zd 10 18 h
structure nH where
 Mac:Int
 ql:Bool
 qd:Rows
def nH.enc (x:nH):List DC:=[.int x.Mac,.bool x.ql,.sl x.qd]
def nH.na (r:List DC) (o:Nat):nH:=⟨rI r (o+0),rB r (o+1),rR r (o+2)⟩
def nH.ct:List CT:=[.i,.bool,.sl [.i]]
theorem nH.eta {r:List DC} (h:jI nH.ct r):(nH.na r 0).enc=r:=(show (nH.na r 0).enc=sV nH.ct r 0 from by kernel_rfl).trans (rp h)
theorem nH.nB {r:List CT} {ds:List DC} (h:jI (nH.ct++r) ds):∃(x:nH) (aW:List DC),ds=x.enc++aW∧jI nH.ct x.enc∧jI r aW:=by
 obtain⟨d1,d2,rfl,h1,h2⟩:=qt h
 exact⟨nH.na d1 0,d2,by rw[nH.eta h1],by rw[nH.eta h1];exact h1,h2⟩
theorem nH.nuk {x:nH} (h:jI nH.ct x.enc):Gk (.sl [.i]) (.sl x.qd):=oD 2 h rfl rfl
structure nh where
 nI:Rows
def nh.enc (x:nh):List DC:=[.sl x.nI]
def nh.na (r:List DC) (o:Nat):nh:=⟨rR r (o+0)⟩
def nh.ct:List CT:=[.sl [.i,.i,.i,.i,.i,.i,.i]]
theorem nh.eta {r:List DC} (h:jI nh.ct r):(nh.na r 0).enc=r:=(show (nh.na r 0).enc=sV nh.ct r 0 from by kernel_rfl).trans (rp h)
theorem nh.nB {r:List CT} {ds:List DC} (h:jI (nh.ct++r) ds):∃(x:nh) (aW:List DC),ds=x.enc++aW∧jI nh.ct x.enc∧jI r aW:=by
 obtain⟨d1,d2,rfl,h1,h2⟩:=qt h
 exact⟨nh.na d1 0,d2,by rw[nh.eta h1],by rw[nh.eta h1];exact h1,h2⟩
theorem nh.Xj {x:nh} (h:jI nh.ct x.enc):Gk (.sl [.i,.i,.i,.i,.i,.i,.i]) (.sl x.nI):=oD 0 h rfl rfl
structure nJ where
 Key:Bytes
 Table:Rows
def nJ.enc (x:nJ):List DC:=[.str x.Key,.sl x.Table]
def nJ.na (r:List DC) (o:Nat):nJ:=⟨rS r (o+0),rR r (o+1)⟩
def nJ.ct:List CT:=[.str,.sl [.i]]
theorem nJ.eta {r:List DC} (h:jI nJ.ct r):(nJ.na r 0).enc=r:=(show (nJ.na r 0).enc=sV nJ.ct r 0 from by kernel_rfl).trans (rp h)
theorem nJ.nB {r:List CT} {ds:List DC} (h:jI (nJ.ct++r) ds):∃(x:nJ) (aW:List DC),ds=x.enc++aW∧jI nJ.ct x.enc∧jI r aW:=by
 obtain⟨d1,d2,rfl,h1,h2⟩:=qt h
 exact⟨nJ.na d1 0,d2,by rw[nJ.eta h1],by rw[nJ.eta h1];exact h1,h2⟩
theorem nJ.nzY {x:nJ} (h:jI nJ.ct x.enc):Gk .str (.str x.Key):=oD 0 h rfl rfl
theorem nJ.Xk {x:nJ} (h:jI nJ.ct x.enc):Gk (.sl [.i]) (.sl x.Table):=oD 1 h rfl rfl
structure nj where
 oY:Rows
 Table:nh
 oO:nJ
def nj.enc (x:nj):List DC:=[.sl x.oY,.sl x.Table.nI,.str x.oO.Key,.sl x.oO.Table]
def nj.na (r:List DC) (o:Nat):nj:=⟨rR r (o+0),nh.na r (o+1),nJ.na r (o+2)⟩
def nj.ct:List CT:=[.sl [.i,.i,.i,.i,.i,.i,.i,.i,.i],.sl [.i,.i,.i,.i,.i,.i,.i],.str,.sl [.i]]
theorem nj.eta {r:List DC} (h:jI nj.ct r):(nj.na r 0).enc=r:=(show (nj.na r 0).enc=sV nj.ct r 0 from by kernel_rfl).trans (rp h)
theorem nj.nB {r:List CT} {ds:List DC} (h:jI (nj.ct++r) ds):∃(x:nj) (aW:List DC),ds=x.enc++aW∧jI nj.ct x.enc∧jI r aW:=by
 obtain⟨d1,d2,rfl,h1,h2⟩:=qt h
 exact⟨nj.na d1 0,d2,by rw[nj.eta h1],by rw[nj.eta h1];exact h1,h2⟩
theorem nj.nuj {x:nj} (h:jI nj.ct x.enc):Gk (.sl [.i,.i,.i,.i,.i,.i,.i,.i,.i]) (.sl x.oY):=oD 0 h rfl rfl
theorem nj.Xk {x:nj} (h:jI nj.ct x.enc):jI nh.ct x.Table.enc:=zd 1 1 h
theorem nj.nyh {x:nj} (h:jI nj.ct x.enc):jI nJ.ct x.oO.enc:=zd 2 2 h
structure oz where
 Vc:nS
 Next:Int
 Data:Bytes
 nyZ:Bool
def oz.enc (x:oz):List DC:=[.int x.Vc.Kind,.int x.Vc.qC,.int x.Vc.rl,.int x.Vc.oX,.int x.Vc.oW,.int x.Next,.str x.Data,.bool x.nyZ]
def oz.na (r:List DC) (o:Nat):oz:=⟨nS.na r (o+0),rI r (o+5),rS r (o+6),rB r (o+7)⟩
def oz.ct:List CT:=[.i,.i,.i,.i,.i,.i,.str,.bool]
theorem oz.eta {r:List DC} (h:jI oz.ct r):(oz.na r 0).enc=r:=(show (oz.na r 0).enc=sV oz.ct r 0 from by kernel_rfl).trans (rp h)
theorem oz.nB {r:List CT} {ds:List DC} (h:jI (oz.ct++r) ds):∃(x:oz) (aW:List DC),ds=x.enc++aW∧jI oz.ct x.enc∧jI r aW:=by
 obtain⟨d1,d2,rfl,h1,h2⟩:=qt h
 exact⟨oz.na d1 0,d2,by rw[oz.eta h1],by rw[oz.eta h1];exact h1,h2⟩
theorem oz.nzg {x:oz} (h:jI oz.ct x.enc):jI nS.ct x.Vc.enc:=zd 0 5 h
theorem oz.nzj {x:oz} (h:jI oz.ct x.enc):Gk .i (.int x.Next):=oD 5 h rfl rfl
theorem oz.nzf {x:oz} (h:jI oz.ct x.enc):Gk .str (.str x.Data):=oD 6 h rfl rfl
structure oC where
 Frames:Int
 Bad:Int
 sR:Int
 uQ:Int
 PW:Int
def oC.enc (x:oC):List DC:=[.int x.Frames,.int x.Bad,.int x.sR,.int x.uQ,.int x.PW]
def oC.na (r:List DC) (o:Nat):oC:=⟨rI r (o+0),rI r (o+1),rI r (o+2),rI r (o+3),rI r (o+4)⟩
def oC.ct:List CT:=[.i,.i,.i,.i,.i]
theorem oC.eta {r:List DC} (h:jI oC.ct r):(oC.na r 0).enc=r:=(show (oC.na r 0).enc=sV oC.ct r 0 from by kernel_rfl).trans (rp h)
theorem oC.nB {r:List CT} {ds:List DC} (h:jI (oC.ct++r) ds):∃(x:oC) (aW:List DC),ds=x.enc++aW∧jI oC.ct x.enc∧jI r aW:=by
 obtain⟨d1,d2,rfl,h1,h2⟩:=qt h
 exact⟨oC.na d1 0,d2,by rw[oC.eta h1],by rw[oC.eta h1];exact h1,h2⟩
structure nx where
 oB:nd
 Maps:Rows
 Tx:ng
 Rx:Rows
 oA:Rows
 ou:Rows
 pk:Rows
 Filter:nH
 nA:nj
 p6:Rows
 sF:Bool
 vN:Rows
 oP:Rows
 pU:Rows
 Counters:oC
def nx.enc (x:nx):List DC:=[.sl x.oB.nV,.sl x.Maps,.int x.Tx.Ring.oR,.int x.Tx.Ring.nR,.int x.Tx.Ring.Head,.int x.Tx.Ring.pV,.int x.Tx.n7.oR,.int x.Tx.n7.nR,.int x.Tx.n7.Count,.sl x.Tx.n7.py,.sl x.Tx.ni,.int x.Tx.Next,.sl x.Rx,.sl x.oA,.sl x.ou,.sl x.pk,.int x.Filter.Mac,.bool x.Filter.ql,.sl x.Filter.qd,.sl x.nA.oY,.sl x.nA.Table.nI,.str x.nA.oO.Key,.sl x.nA.oO.Table,.sl x.p6,.bool x.sF,.sl x.vN,.sl x.oP,.sl x.pU,.int x.Counters.Frames,.int x.Counters.Bad,.int x.Counters.sR,.int x.Counters.uQ,.int x.Counters.PW]
def nx.na (r:List DC) (o:Nat):nx:=⟨nd.na r (o+0),rR r (o+1),ng.na r (o+2),rR r (o+12),rR r (o+13),rR r (o+14),rR r (o+15),nH.na r (o+16),nj.na r (o+19),rR r (o+23),rB r (o+24),rR r (o+25),rR r (o+26),rR r (o+27),oC.na r (o+28)⟩
def nx.ct:List CT:=[.sl [.str],.sl [.i,.i,.i,.bool],.i,.i,.i,.i,.i,.i,.i,.sl [.i],.sl [.i,.i,.sl [.i]],.i,.sl [.i,.i,.i,.i,.i,.i,.i,.i,.i,.i,.i,.i,.i,.i,.i,.i,.i,.i,.i,.i,.i,.i,.i,.i,.i,.str,.i,.i,.bool,.i],.sl [.i,.i,.i,.sl [.i]],.sl [.i,.i,.i,.i,.bool,.bool],.sl [.bool],.i,.bool,.sl [.i],.sl [.i,.i,.i,.i,.i,.i,.i,.i,.i],.sl [.i,.i,.i,.i,.i,.i,.i],.str,.sl [.i],.sl [.i,.i,.i,.i,.i,.i,.str,.bool],.bool,.sl [.str],.sl [.i],.sl [.i],.i,.i,.i,.i,.i]
theorem nx.eta {r:List DC} (h:jI nx.ct r):(nx.na r 0).enc=r:=(show (nx.na r 0).enc=sV nx.ct r 0 from by kernel_rfl).trans (rp h)
theorem nx.nB {r:List CT} {ds:List DC} (h:jI (nx.ct++r) ds):∃(x:nx) (aW:List DC),ds=x.enc++aW∧jI nx.ct x.enc∧jI r aW:=by
 obtain⟨d1,d2,rfl,h1,h2⟩:=qt h
 exact⟨nx.na d1 0,d2,by rw[nx.eta h1],by rw[nx.eta h1];exact h1,h2⟩
theorem nx.noH {x:nx} (h:jI nx.ct x.enc):jI nd.ct x.oB.enc:=zd 0 1 h
theorem nx.nrR {x:nx} (h:jI nx.ct x.enc):Gk (.sl [.i,.i,.i,.bool]) (.sl x.Maps):=oD 1 h rfl rfl
theorem nx.nxZ {x:nx} (h:jI nx.ct x.enc):jI ng.ct x.Tx.enc:=zd 2 10 h
theorem nx.nyY {x:nx} (h:jI nx.ct x.enc):Gk (.sl [.i,.i,.i,.i,.i,.i,.i,.i,.i,.i,.i,.i,.i,.i,.i,.i,.i,.i,.i,.i,.i,.i,.i,.i,.i,.str,.i,.i,.bool,.i]) (.sl x.Rx):=oD 12 h rfl rfl
theorem nx.ngT {x:nx} (h:jI nx.ct x.enc):Gk (.sl [.i,.i,.i,.sl [.i]]) (.sl x.oA):=oD 13 h rfl rfl
theorem nx.nkf {x:nx} (h:jI nx.ct x.enc):Gk (.sl [.i,.i,.i,.i,.bool,.bool]) (.sl x.ou):=oD 14 h rfl rfl
theorem nx.nkc {x:nx} (h:jI nx.ct x.enc):Gk (.sl [.bool]) (.sl x.pk):=oD 15 h rfl rfl
theorem nx.nvL {x:nx} (h:jI nx.ct x.enc):jI nH.ct x.Filter.enc:=zd 16 3 h
theorem nx.no_ {x:nx} (h:jI nx.ct x.enc):jI nj.ct x.nA.enc:=zd 19 4 h
theorem nx.nke {x:nx} (h:jI nx.ct x.enc):Gk (.sl [.i,.i,.i,.i,.i,.i,.str,.bool]) (.sl x.p6):=oD 23 h rfl rfl
theorem nx.nwB {x:nx} (h:jI nx.ct x.enc):Gk (.sl [.str]) (.sl x.vN):=oD 25 h rfl rfl
theorem nx.nbQ {x:nx} (h:jI nx.ct x.enc):Gk (.sl [.i]) (.sl x.oP):=oD 26 h rfl rfl
theorem nx.ngU {x:nx} (h:jI nx.ct x.enc):Gk (.sl [.i]) (.sl x.pU):=oD 27 h rfl rfl
structure oc where
 nes:Int
 nkl:Int
 Count:Int
 Time:Int
 nvP:Bool
 nrX:Bool
def oc.enc (x:oc):List DC:=[.int x.nes,.int x.nkl,.int x.Count,.int x.Time,.bool x.nvP,.bool x.nrX]
def oc.na (r:List DC) (o:Nat):oc:=⟨rI r (o+0),rI r (o+1),rI r (o+2),rI r (o+3),rB r (o+4),rB r (o+5)⟩
def oc.ct:List CT:=[.i,.i,.i,.i,.bool,.bool]
theorem oc.eta {r:List DC} (h:jI oc.ct r):(oc.na r 0).enc=r:=(show (oc.na r 0).enc=sV oc.ct r 0 from by kernel_rfl).trans (rp h)
theorem oc.nB {r:List CT} {ds:List DC} (h:jI (oc.ct++r) ds):∃(x:oc) (aW:List DC),ds=x.enc++aW∧jI oc.ct x.enc∧jI r aW:=by
 obtain⟨d1,d2,rfl,h1,h2⟩:=qt h
 exact⟨oc.na d1 0,d2,by rw[oc.eta h1],by rw[oc.eta h1];exact h1,h2⟩
theorem oc.nuh {x:oc} (h:jI oc.ct x.enc):Gk .i (.int x.Count):=oD 2 h rfl rfl
structure oZ where
 nxi:Int
 nvT:Int
 nrW:Int
 nrZ:Bool
def oZ.enc (x:oZ):List DC:=[.int x.nxi,.int x.nvT,.int x.nrW,.bool x.nrZ]
def oZ.na (r:List DC) (o:Nat):oZ:=⟨rI r (o+0),rI r (o+1),rI r (o+2),rB r (o+3)⟩
def oZ.ct:List CT:=[.i,.i,.i,.bool]
theorem oZ.eta {r:List DC} (h:jI oZ.ct r):(oZ.na r 0).enc=r:=(show (oZ.na r 0).enc=sV oZ.ct r 0 from by kernel_rfl).trans (rp h)
theorem oZ.nB {r:List CT} {ds:List DC} (h:jI (oZ.ct++r) ds):∃(x:oZ) (aW:List DC),ds=x.enc++aW∧jI oZ.ct x.enc∧jI r aW:=by
 obtain⟨d1,d2,rfl,h1,h2⟩:=qt h
 exact⟨oZ.na d1 0,d2,by rw[oZ.eta h1],by rw[oZ.eta h1];exact h1,h2⟩
structure pF where
 Priority:Int
 Kind:Int
 qC:Int
 nrJ:Int
 Ze:Int
 ner:Int
 sO:Int
 Action:Int
 Queue:Int
def pF.enc (x:pF):List DC:=[.int x.Priority,.int x.Kind,.int x.qC,.int x.nrJ,.int x.Ze,.int x.ner,.int x.sO,.int x.Action,.int x.Queue]
def pF.na (r:List DC) (o:Nat):pF:=⟨rI r (o+0),rI r (o+1),rI r (o+2),rI r (o+3),rI r (o+4),rI r (o+5),rI r (o+6),rI r (o+7),rI r (o+8)⟩
def pF.ct:List CT:=[.i,.i,.i,.i,.i,.i,.i,.i,.i]
theorem pF.eta {r:List DC} (h:jI pF.ct r):(pF.na r 0).enc=r:=(show (pF.na r 0).enc=sV pF.ct r 0 from by kernel_rfl).trans (rp h)
theorem pF.nB {r:List CT} {ds:List DC} (h:jI (pF.ct++r) ds):∃(x:pF) (aW:List DC),ds=x.enc++aW∧jI pF.ct x.enc∧jI r aW:=by
 obtain⟨d1,d2,rfl,h1,h2⟩:=qt h
 exact⟨pF.na d1 0,d2,by rw[pF.eta h1],by rw[pF.eta h1];exact h1,h2⟩
theorem pF.nrQ {x:pF} (h:jI pF.ct x.enc):Gk .i (.int x.Kind):=oD 1 h rfl rfl
theorem pF.nmz {x:pF} (h:jI pF.ct x.enc):Gk .i (.int x.qC):=oD 2 h rfl rfl
theorem pF.nx0 {x:pF} (h:jI pF.ct x.enc):Gk .i (.int x.sO):=oD 6 h rfl rfl
theorem pF.nyX {x:pF} (h:jI pF.ct x.enc):Gk .i (.int x.Queue):=oD 8 h rfl rfl
def toL (rf:List DC→List DC) {α:Type} (jK:α) (k_:Rows→α) (a:Rows) (ov:Int→Rows→α) (i:Int) (out:Rows):α:=
 bif decide (i<len a) then bif DF (DF (DF true (idx i a)) (idx i out)) (inl (Int.toNat i) out) then ov (nK (i+1)) (List.set out (Int.toNat i) (bF (nth out (Int.toNat i)) 0 (rf (nth a (Int.toNat i))))) else jK else k_ out
def noB (rf:List DC→List DC) {α:Type} (jK:α) (k_:Rows→α) (N:Nat) (a:Rows) (m_:Nat):Int→Rows→α:=
 Nat.rec (motive:=fun _=>Int→Rows→α) (fun _ _=>jK) (fun _ ov=>toL rf jK k_ a ov) m_
def toT (z:Nat) (d:List DC) {α:Type} (jK:α) (k_:Rows→α) (l0:Int→Rows→α) (a:Rows):α:=
 bif DF true (xo z (len a) (len a)) then l0 0 (List.replicate (Int.toNat (len a)) d) else jK
def na_ (z:Nat) (d:List DC) (rf:List DC→List DC) {α:Type} (jK:α) (k_:Rows→α) (N:Nat) (a:Rows):α:=toT z d jK k_ (noB rf jK k_ N a N) a
theorem nwz {α:Type} (z:Nat) (hz:z≤8388608) (d:List DC) (rf:List DC→List DC) (jK:α) (k_:Rows→α) (a:Rows) (hl:a.length≤9223372036854775807) (Is:sm a=true) (hr:∀r∈a,bF d 0 (rf r)=r):∃N,na_ z d rf jK k_ N a=k_ a:=by
 refine⟨a.length+1, ?_⟩
 unfold na_ toT
 have e0:Int.toNat (len a)=a.length:=by simp [len]
 simp only[nwe Is hz,nc,cond_true,e0]
 refine nr4 a (noB rf jK k_ (a.length+1) a) k_ d (fun o r=>bF o 0 (rf r)) ?_ ?_ hr
 ·intro n i out h ho
  show toL rf jK k_ a (noB rf jK k_ (a.length+1) a n) (i:Int) out=_
  simp only[toL,oV h,nT h,nv0 ho h,vL (show i<out.length by omega),n_ h hl,Int.toNat_natCast,nc,nn,cond_true]
 ·intro n out ho
  show toL rf jK k_ a (noB rf jK k_ (a.length+1) a n) (a.length:Int) out=_
  simp only[toL,nQ,cond_false]
def eqL {σ:Type} (dec:List DC→σ) {α:Type} (jK:α) (k_:Bool→α) (a b:Rows) (ov:Int→α) (i:Int):α:=
 bif decide (i<len a) then bif DF (DF (DF true (idx i a)) (idx i b)) (same (dec (nth a (Int.toNat i))) (dec (nth b (Int.toNat i)))) then bif !(px (dec (nth a (Int.toNat i))) (dec (nth b (Int.toNat i)))) then k_ false else ov (nK (i+1)) else jK else k_ true
def npc {σ:Type} (dec:List DC→σ) {α:Type} (jK:α) (k_:Bool→α) (N:Nat) (a b:Rows) (m_:Nat):Int→α:=
 Nat.rec (motive:=fun _=>Int→α) (fun _=>jK) (fun _ ov=>eqL dec jK k_ a b ov) m_
def eqT {α:Type} (jK:α) (k_:Bool→α) (l0:Int→α) (a b:Rows):α:=bif (len a) != (len b) then k_ false else l0 0
def nd8 {σ:Type} (dec:List DC→σ) {α:Type} (jK:α) (k_:Bool→α) (N:Nat) (a b:Rows):α:=eqT jK k_ (npc dec jK k_ N a b N) a b
theorem nwL {α σ:Type} (dec:List DC→σ) (jK:α) (k_:Bool→α) (a b:Rows) (hl:a.length≤9223372036854775807) (aF:same a b=true):∃N,nd8 dec jK k_ N a b=k_ (px a b):=by
 obtain rfl:=rG aF
 refine⟨a.length+1, ?_⟩
 unfold nd8 eqT
 simp only[bne_self_eq_false,cond_false]
 refine (qW a (npc dec jK k_ (a.length+1) a a) (fun _ _ c=>c) (k_ true) ?_ ?_).trans (nrM _ _ _)
 ·intro n i h
  show eqL dec jK k_ a a (npc dec jK k_ (a.length+1) a a n) (i:Int)=_
  simp only[eqL,oV h,nT h,n_ h hl,Int.toNat_natCast,nc,nn,cond_true,cond_false,pP,px,Bool.not_true]
 ·intro n
  show eqL dec jK k_ a a (npc dec jK k_ (a.length+1) a a n) (a.length:Int)=_
  simp only[eqL,nQ,cond_false]
def nu2 {α:Type} (k_:nS→α) (a:nS):α:=
 k_ a
theorem nu1 {α:Type} (k_:nS→α) (a:nS):nu2 k_ a=k_ (oQ a):=by
 rfl
def nvf {α:Type} (k_:ra→α) (a:ra):α:=
 k_ (⟨a.State,oQ a.Vc,a.Queue⟩:ra)
theorem nvd {α:Type} (k_:ra→α) (a:ra):nvf k_ a=k_ (oQ a):=by
 rfl
def y7 (k_:Int→α) (a:Rows) (ov:Int→Int→α) (uU i:Int):α:=
 let z0:Int:=nK (uU - (len (rS (nth a (Int.toNat i)) 0)))
 bif decide (i<len a) then
  bif DF true (idx i a) then
   bif decide (z0<0) then k_ (-1)
   else ov z0 (nK (i+1))
  else jK
 else k_ uU
def y6 (k_:Int→α) (N:Nat) (a:Rows) (m_:Nat):Int→Int→α:=
 Nat.rec (motive:=fun _=>Int→Int→α) (fun _ _=>jK) (fun _ ov=>y7 jK k_ a ov) m_
theorem UO (k_:Int→α) (N:Nat) (a:Rows) (m_:Nat):y6 jK k_ N a (m_+1)=y7 jK k_ a (y6 jK k_ N a m_):=rfl
def Sf {α:Type} (jK:α) (k_:Int→α) (l0:Int→Int→α) (a:Rows) (left:Int):α:=
 bif decide (nK (left - (len a))<0) then k_ (-1)
 else l0 (nK (left - (len a))) 0
def naB (k_:Int→α) (N:Nat) (a:Rows) (left:Int):α:=Sf jK k_ (y6 jK k_ N a N) a left
def qp (a:Rows) (left:Int):Int:=U1 (fun r l=>nK (l - len (rS r 0))) a left
theorem nnM (k_:Int→α) (a:Rows) (left:Int) (qj:Gk (.sl [.str]) (.sl a)):∃N,naB jK k_ N a left=k_ (qp a left):=by
 obtain⟨hl,_⟩:=oy qj
 refine⟨a.length+1, ?_⟩
 unfold naB Sf qp U1
 refine Jk rfl ?_
 refine (U_ a (fun n i l=>y6 jK k_ (a.length+1) a n l i) (fun _ r c l=>bif decide ((fun r l=>nK (l - len (rS r 0))) r l<0) then k_ (-1) else c ((fun r l=>nK (l - len (rS r 0))) r l)) k_ ?_ ?_ _).trans (nvD (fun r l=>nK (l - len (rS r 0))) k_ a 0 _)
 ·intro n i l h
  try dsimp only
  rw[UO]
  simp only[y7,oV h,nT h,n_ h hl,Int.toNat_natCast,nc,nn,cond_true]
 ·intro n l
  try dsimp only
  rw[UO]
  simp only[y7,nQ,cond_false]
def TQ {α:Type} (k_:Int→α) (a:nd) (left:Int):α:=
 bif decide (qp a.nV left<0) then k_ (-1)
 else k_ (qp a.nV left)
def oa (a:nd) (left:Int):Int:=TQ id a left
theorem nqu {α:Type} (k_:Int→α) (a:nd) (left:Int):TQ k_ a left=k_ (oa a left):=by
 exact Jk rfl rfl
def nlG {α:Type} (k_:Int→α) (a:Rows) (left:Int):α:=
 bif decide (nK (left - (len a))<0) then k_ (-1)
 else k_ (nK (left - (len a)))
theorem uz {α:Type} (k_:Int→α) (a:Rows) (left:Int):nlG k_ a left=k_ (oe a left):=by
 exact Jk rfl rfl
def SG {α:Type} (k_:Int→α) (a:nE) (left:Int):α:=
 bif decide (oe a.py left<0) then k_ (-1)
 else k_ (oe a.py left)
def qF (a:nE) (left:Int):Int:=SG id a left
theorem nuY {α:Type} (k_:Int→α) (a:nE) (left:Int):SG k_ a left=k_ (qF a left):=by
 exact Jk rfl rfl
def SH {α:Type} (k_:Int→α) (a:pe) (left:Int):α:=
 bif decide (oe a.PU left<0) then k_ (-1)
 else k_ (oe a.PU left)
def rO (a:pe) (left:Int):Int:=SH id a left
theorem nuZ {α:Type} (k_:Int→α) (a:pe) (left:Int):SH k_ a left=k_ (rO a left):=by
 exact Jk rfl rfl
def OU (k_:Int→α) (a:Rows) (ov:Int→Int→α) (uU i:Int):α:=
 let z0:Int:=rO (pe.na (nth a (Int.toNat i)) 0) uU
 bif decide (i<len a) then
  bif DF true (idx i a) then
   bif decide (z0<0) then k_ (-1)
   else ov z0 (nK (i+1))
  else jK
 else k_ uU
def OT (k_:Int→α) (N:Nat) (a:Rows) (m_:Nat):Int→Int→α:=
 Nat.rec (motive:=fun _=>Int→Int→α) (fun _ _=>jK) (fun _ ov=>OU jK k_ a ov) m_
theorem Yc (k_:Int→α) (N:Nat) (a:Rows) (m_:Nat):OT jK k_ N a (m_+1)=OU jK k_ a (OT jK k_ N a m_):=rfl
def Wy {α:Type} (jK:α) (k_:Int→α) (l0:Int→Int→α) (a:Rows) (left:Int):α:=
 bif decide (nK (left - (len a))<0) then k_ (-1)
 else l0 (nK (left - (len a))) 0
def nfC (k_:Int→α) (N:Nat) (a:Rows) (left:Int):α:=Wy jK k_ (OT jK k_ N a N) a left
def tc (a:Rows) (left:Int):Int:=U1 (fun r l=>rO (pe.na r 0) l) a left
theorem nsW (k_:Int→α) (a:Rows) (left:Int) (qj:Gk (.sl [.i,.i,.sl [.i]]) (.sl a)):∃N,nfC jK k_ N a left=k_ (tc a left):=by
 obtain⟨hl,_⟩:=oy qj
 refine⟨a.length+1, ?_⟩
 unfold nfC Wy tc U1
 refine Jk rfl ?_
 refine (U_ a (fun n i l=>OT jK k_ (a.length+1) a n l i) (fun _ r c l=>bif decide ((fun r l=>rO (pe.na r 0) l) r l<0) then k_ (-1) else c ((fun r l=>rO (pe.na r 0) l) r l)) k_ ?_ ?_ _).trans (nvD (fun r l=>rO (pe.na r 0) l) k_ a 0 _)
 ·intro n i l h
  try dsimp only
  rw[Yc]
  simp only[OU,oV h,nT h,n_ h hl,Int.toNat_natCast,nc,nn,cond_true]
 ·intro n l
  try dsimp only
  rw[Yc]
  simp only[OU,nQ,cond_false]
def xn {α:Type} (k_:Int→α) (a:ng) (left:Int):α:=
 let z0:Int:=tc a.ni (qF a.n7 left)
 bif decide (qF a.n7 left<0) then k_ (-1)
 else bif decide (z0<0) then k_ (-1)
 else k_ z0
def n8 (a:ng) (left:Int):Int:=xn id a left
theorem nnN {α:Type} (k_:Int→α) (a:ng) (left:Int):xn k_ a left=k_ (n8 a left):=by
 exact Jk rfl (Jk rfl rfl)
def Sc {α:Type} (k_:Int→α) (a:nz) (left:Int):α:=
 let z0:Int:=nK (left - (len a.Body))
 bif decide (z0<0) then k_ (-1)
 else k_ z0
def uu (a:nz) (left:Int):Int:=Sc id a left
theorem nnF {α:Type} (k_:Int→α) (a:nz) (left:Int):Sc k_ a left=k_ (uu a left):=by
 exact Jk rfl rfl
def TR {α:Type} (k_:Int→α) (a:nk) (left:Int):α:=
 bif decide (uu a.rZ left<0) then k_ (-1)
 else k_ (uu a.rZ left)
def uY (a:nk) (left:Int):Int:=TR id a left
theorem nqw {α:Type} (k_:Int→α) (a:nk) (left:Int):TR k_ a left=k_ (uY a left):=by
 exact Jk rfl rfl
def WA {α:Type} (k_:Int→α) (a:pA) (left:Int):α:=
 bif decide (uY a.pI left<0) then k_ (-1)
 else k_ (uY a.pI left)
def wF (a:pA) (left:Int):Int:=WA id a left
theorem ns1 {α:Type} (k_:Int→α) (a:pA) (left:Int):WA k_ a left=k_ (wF a left):=by
 exact Jk rfl rfl
def Sb {α:Type} (k_:Int→α) (a:nP) (left:Int):α:=
 bif decide (wF a.va left<0) then k_ (-1)
 else k_ (wF a.va left)
def sn (a:nP) (left:Int):Int:=Sb id a left
theorem nnD {α:Type} (k_:Int→α) (a:nP) (left:Int):Sb k_ a left=k_ (sn a left):=by
 exact Jk rfl rfl
def xT (k_:Int→α) (a:Rows) (ov:Int→Int→α) (uU i:Int):α:=
 let z0:Int:=sn (nP.na (nth a (Int.toNat i)) 0) uU
 bif decide (i<len a) then
  bif DF true (idx i a) then
   bif decide (z0<0) then k_ (-1)
   else ov z0 (nK (i+1))
  else jK
 else k_ uU
def xS (k_:Int→α) (N:Nat) (a:Rows) (m_:Nat):Int→Int→α:=
 Nat.rec (motive:=fun _=>Int→Int→α) (fun _ _=>jK) (fun _ ov=>xT jK k_ a ov) m_
theorem S8 (k_:Int→α) (N:Nat) (a:Rows) (m_:Nat):xS jK k_ N a (m_+1)=xT jK k_ a (xS jK k_ N a m_):=rfl
def QR {α:Type} (jK:α) (k_:Int→α) (l0:Int→Int→α) (a:Rows) (left:Int):α:=
 bif decide (nK (left - (len a))<0) then k_ (-1)
 else l0 (nK (left - (len a))) 0
def Yb (k_:Int→α) (N:Nat) (a:Rows) (left:Int):α:=QR jK k_ (xS jK k_ N a N) a left
def oF (a:Rows) (left:Int):Int:=U1 (fun r l=>sn (nP.na r 0) l) a left
theorem nlH (k_:Int→α) (a:Rows) (left:Int) (qj:Gk (.sl [.i,.i,.i,.i,.i,.i,.i,.i,.i,.i,.i,.i,.i,.i,.i,.i,.i,.i,.i,.i,.i,.i,.i,.i,.i,.str,.i,.i,.bool,.i]) (.sl a)):∃N,Yb jK k_ N a left=k_ (oF a left):=by
 obtain⟨hl,_⟩:=oy qj
 refine⟨a.length+1, ?_⟩
 unfold Yb QR oF U1
 refine Jk rfl ?_
 refine (U_ a (fun n i l=>xS jK k_ (a.length+1) a n l i) (fun _ r c l=>bif decide ((fun r l=>sn (nP.na r 0) l) r l<0) then k_ (-1) else c ((fun r l=>sn (nP.na r 0) l) r l)) k_ ?_ ?_ _).trans (nvD (fun r l=>sn (nP.na r 0) l) k_ a 0 _)
 ·intro n i l h
  try dsimp only
  rw[S8]
  simp only[xT,oV h,nT h,n_ h hl,Int.toNat_natCast,nc,nn,cond_true]
 ·intro n l
  try dsimp only
  rw[S8]
  simp only[xT,nQ,cond_false]
def OS (k_:Int→α) (a:Rows) (ov:Int→Int→α) (uU i:Int):α:=
 let z0:Int:=qF (nE.na (nth a (Int.toNat i)) 0) uU
 bif decide (i<len a) then
  bif DF true (idx i a) then
   bif decide (z0<0) then k_ (-1)
   else ov z0 (nK (i+1))
  else jK
 else k_ uU
def OR (k_:Int→α) (N:Nat) (a:Rows) (m_:Nat):Int→Int→α:=
 Nat.rec (motive:=fun _=>Int→Int→α) (fun _ _=>jK) (fun _ ov=>OS jK k_ a ov) m_
theorem X8 (k_:Int→α) (N:Nat) (a:Rows) (m_:Nat):OR jK k_ N a (m_+1)=OS jK k_ a (OR jK k_ N a m_):=rfl
def Wv {α:Type} (jK:α) (k_:Int→α) (l0:Int→Int→α) (a:Rows) (left:Int):α:=
 bif decide (nK (left - (len a))<0) then k_ (-1)
 else l0 (nK (left - (len a))) 0
def nfx (k_:Int→α) (N:Nat) (a:Rows) (left:Int):α:=Wv jK k_ (OR jK k_ N a N) a left
def pD (a:Rows) (left:Int):Int:=U1 (fun r l=>qF (nE.na r 0) l) a left
theorem nsS (k_:Int→α) (a:Rows) (left:Int) (qj:Gk (.sl [.i,.i,.i,.sl [.i]]) (.sl a)):∃N,nfx jK k_ N a left=k_ (pD a left):=by
 obtain⟨hl,_⟩:=oy qj
 refine⟨a.length+1, ?_⟩
 unfold nfx Wv pD U1
 refine Jk rfl ?_
 refine (U_ a (fun n i l=>OR jK k_ (a.length+1) a n l i) (fun _ r c l=>bif decide ((fun r l=>qF (nE.na r 0) l) r l<0) then k_ (-1) else c ((fun r l=>qF (nE.na r 0) l) r l)) k_ ?_ ?_ _).trans (nvD (fun r l=>qF (nE.na r 0) l) k_ a 0 _)
 ·intro n i l h
  try dsimp only
  rw[X8]
  simp only[OS,oV h,nT h,n_ h hl,Int.toNat_natCast,nc,nn,cond_true]
 ·intro n l
  try dsimp only
  rw[X8]
  simp only[OS,nQ,cond_false]
def TP {α:Type} (k_:Int→α) (a:nH) (left:Int):α:=
 bif decide (oe a.qd left<0) then k_ (-1)
 else k_ (oe a.qd left)
def qe (a:nH) (left:Int):Int:=TP id a left
theorem nqr {α:Type} (k_:Int→α) (a:nH) (left:Int):TP k_ a left=k_ (qe a left):=by
 exact Jk rfl rfl
def Px {α:Type} (k_:Int→α) (a:nh) (left:Int):α:=
 bif decide (oe a.nI left<0) then k_ (-1)
 else k_ (oe a.nI left)
def sK (a:nh) (left:Int):Int:=Px id a left
theorem njJ {α:Type} (k_:Int→α) (a:nh) (left:Int):Px k_ a left=k_ (sK a left):=by
 exact Jk rfl rfl
def TU {α:Type} (k_:Int→α) (a:nJ) (left:Int):α:=
 let z0:Int:=nK (left - (len a.Key))
 let z1:Int:=oe a.Table z0
 bif decide (z0<0) then k_ (-1)
 else bif decide (z1<0) then k_ (-1)
 else k_ z1
def wQ (a:nJ) (left:Int):Int:=TU id a left
theorem nqA {α:Type} (k_:Int→α) (a:nJ) (left:Int):TU k_ a left=k_ (wQ a left):=by
 exact Jk rfl (Jk rfl rfl)
def QS {α:Type} (k_:Int→α) (a:nj) (left:Int):α:=
 let z0:Int:=sK a.Table (oe a.oY left)
 let z1:Int:=wQ a.oO z0
 bif decide (oe a.oY left<0) then k_ (-1)
 else bif decide (z0<0) then k_ (-1)
 else bif decide (z1<0) then k_ (-1)
 else k_ z1
def pZ (a:nj) (left:Int):Int:=QS id a left
theorem nlM {α:Type} (k_:Int→α) (a:nj) (left:Int):QS k_ a left=k_ (pZ a left):=by
 exact Jk rfl (Jk rfl (Jk rfl rfl))
def TV {α:Type} (k_:Int→α) (a:oz) (left:Int):α:=
 let z0:Int:=nK (left - (len a.Data))
 bif decide (z0<0) then k_ (-1)
 else k_ z0
def sQ (a:oz) (left:Int):Int:=TV id a left
theorem nqC {α:Type} (k_:Int→α) (a:oz) (left:Int):TV k_ a left=k_ (sQ a left):=by
 exact Jk rfl rfl
def y5 (k_:Int→α) (a:Rows) (ov:Int→Int→α) (uU i:Int):α:=
 let z0:Int:=sQ (oz.na (nth a (Int.toNat i)) 0) uU
 bif decide (i<len a) then
  bif DF true (idx i a) then
   bif decide (z0<0) then k_ (-1)
   else ov z0 (nK (i+1))
  else jK
 else k_ uU
def y4 (k_:Int→α) (N:Nat) (a:Rows) (m_:Nat):Int→Int→α:=
 Nat.rec (motive:=fun _=>Int→Int→α) (fun _ _=>jK) (fun _ ov=>y5 jK k_ a ov) m_
theorem UN (k_:Int→α) (N:Nat) (a:Rows) (m_:Nat):y4 jK k_ N a (m_+1)=y5 jK k_ a (y4 jK k_ N a m_):=rfl
def Se {α:Type} (jK:α) (k_:Int→α) (l0:Int→Int→α) (a:Rows) (left:Int):α:=
 bif decide (nK (left - (len a))<0) then k_ (-1)
 else l0 (nK (left - (len a))) 0
def nay (k_:Int→α) (N:Nat) (a:Rows) (left:Int):α:=Se jK k_ (y4 jK k_ N a N) a left
def qG (a:Rows) (left:Int):Int:=U1 (fun r l=>sQ (oz.na r 0) l) a left
theorem nnI (k_:Int→α) (a:Rows) (left:Int) (qj:Gk (.sl [.i,.i,.i,.i,.i,.i,.str,.bool]) (.sl a)):∃N,nay jK k_ N a left=k_ (qG a left):=by
 obtain⟨hl,_⟩:=oy qj
 refine⟨a.length+1, ?_⟩
 unfold nay Se qG U1
 refine Jk rfl ?_
 refine (U_ a (fun n i l=>y4 jK k_ (a.length+1) a n l i) (fun _ r c l=>bif decide ((fun r l=>sQ (oz.na r 0) l) r l<0) then k_ (-1) else c ((fun r l=>sQ (oz.na r 0) l) r l)) k_ ?_ ?_ _).trans (nvD (fun r l=>sQ (oz.na r 0) l) k_ a 0 _)
 ·intro n i l h
  try dsimp only
  rw[UN]
  simp only[y5,oV h,nT h,n_ h hl,Int.toNat_natCast,nc,nn,cond_true]
 ·intro n l
  try dsimp only
  rw[UN]
  simp only[y5,nQ,cond_false]
def Of {α:Type} (k_:Int→α) (a:nx) (left:Int):α:=
 let z0:Int:=oe a.Maps (oa a.oB left)
 let z1:Int:=n8 a.Tx z0
 let z2:Int:=oF a.Rx z1
 let z3:Int:=pD a.oA z2
 let z4:Int:=oe a.ou z3
 let z5:Int:=oe a.pk z4
 let z6:Int:=qe a.Filter z5
 let z7:Int:=pZ a.nA z6
 let z8:Int:=qG a.p6 z7
 let z9:Int:=qp a.vN z8
 let z10:Int:=oe a.oP z9
 let z11:Int:=oe a.pU z10
 bif decide (oa a.oB left<0) then k_ (-1)
 else bif decide (z0<0) then k_ (-1)
 else bif decide (z1<0) then k_ (-1)
 else bif decide (z2<0) then k_ (-1)
 else bif decide (z3<0) then k_ (-1)
 else bif decide (z4<0) then k_ (-1)
 else bif decide (z5<0) then k_ (-1)
 else bif decide (z6<0) then k_ (-1)
 else bif decide (z7<0) then k_ (-1)
 else bif decide (z8<0) then k_ (-1)
 else bif decide (z9<0) then k_ (-1)
 else bif decide (z10<0) then k_ (-1)
 else bif decide (z11<0) then k_ (-1)
 else k_ z11
def ur (a:nx) (left:Int):Int:=Of id a left
theorem nuW {α:Type} (k_:Int→α) (a:nx) (left:Int):Of k_ a left=k_ (ur a left):=by
 exact Jk rfl (Jk rfl (Jk rfl (Jk rfl (Jk rfl (Jk rfl (Jk rfl (Jk rfl (Jk rfl (Jk rfl (Jk rfl (Jk rfl (Jk rfl rfl))))))))))))
def QM (k_:Bool→α) (a b:Rows) (ov:Int→α) (i:Int):α:=
 bif decide (i<len a) then
  bif DF (DF true (idx i a)) (idx i b) then
   bif (rI (nth a (Int.toNat i)) 0) != (rI (nth b (Int.toNat i)) 0) then k_ false
   else ov (nK (i+1))
  else jK
 else k_ true
def QL (k_:Bool→α) (N:Nat) (a b:Rows) (m_:Nat):Int→α:=
 Nat.rec (motive:=fun _=>Int→α) (fun _=>jK) (fun _ ov=>QM jK k_ a b ov) m_
theorem ZE (k_:Bool→α) (N:Nat) (a b:Rows) (m_:Nat):QL jK k_ N a b (m_+1)=QM jK k_ a b (QL jK k_ N a b m_):=rfl
def Y1 {α:Type} (jK:α) (k_:Bool→α) (l0:Int→α) (a b:Rows):α:=
 bif (len a) != (len b) then k_ false
 else l0 0
def nis (k_:Bool→α) (N:Nat) (a b:Rows):α:=Y1 jK k_ (QL jK k_ N a b N) a b
theorem nuN (k_:Bool→α) (a b:Rows) (qj:Gk (.sl [.i]) (.sl a)) (aF:same a b=true):∃N,nis jK k_ N a b=k_ (px a b):=by
 obtain rfl:=rG aF
 obtain⟨hl,_⟩:=oy qj
 refine⟨a.length+1, ?_⟩
 unfold nis Y1
 simp only[bne_self_eq_false,cond_false]
 refine (qW a (QL jK k_ (a.length+1) a a) (fun _ _ c=>c) (k_ true) ?_ ?_).trans (nrM _ _ _)
 ·intro n i h
  rw[ZE]
  simp only[QM,oV h,nT h,n_ h hl,Int.toNat_natCast,nc,nn,cond_true,cond_false,bne_self_eq_false,beq_self_eq_true,Bool.not_true,pP,px]
 ·intro n
  rw[ZE]
  simp only[QM,nQ,cond_false]
def niu (k_:Bool→α) (a b:nE):α:=
 bif a.oR != b.oR then k_ false
 else bif a.nR != b.nR then k_ false
 else bif a.Count != b.Count then k_ false
 else bif DF true (same a.py b.py) then
   bif !(px a.py b.py) then k_ false
   else k_ true
  else jK
theorem nuO (k_:Bool→α) (a b:nE) (aF:same a b=true):niu jK k_ a b=k_ (px a b):=by
 obtain rfl:=rG aF
 simp only[niu,pP,px,bne_self_eq_false,beq_self_eq_true,Bool.not_true,cond_false,cond_true,nc,nn]
theorem nsC (k_:Bool→α) (a b:Rows) (qj:Gk (.sl [.i,.i,.i,.sl [.i]]) (.sl a)) (aF:same a b=true):∃N,nd8 (fun r=>nE.na r 0) jK k_ N a b=k_ (px a b):=by
 exact nwL (fun r=>nE.na r 0) jK k_ a b (oy qj).1 aF
def nin {α:Type} (k_:Bool→α) (a b:nS):α:=
 bif a.Kind != b.Kind then k_ false
 else bif a.qC != b.qC then k_ false
 else bif a.rl != b.rl then k_ false
 else bif a.oX != b.oX then k_ false
 else bif a.oW != b.oW then k_ false
 else k_ true
theorem nuK {α:Type} (k_:Bool→α) (a b:nS) (aF:same a b=true):nin k_ a b=k_ (px a b):=by
 obtain rfl:=rG aF
 simp only[nin,pP,px,bne_self_eq_false,beq_self_eq_true,Bool.not_true,cond_false,cond_true,nc,nn]
def niC (k_:Bool→α) (a b:ra):α:=
 bif a.State != b.State then k_ false
 else bif DF true (same a.Vc b.Vc) then
   bif !(px a.Vc b.Vc) then k_ false
   else bif a.Queue != b.Queue then k_ false
   else k_ true
  else jK
theorem nuU (k_:Bool→α) (a b:ra) (aF:same a b=true):niC jK k_ a b=k_ (px a b):=by
 obtain rfl:=rG aF
 simp only[niC,pP,px,bne_self_eq_false,beq_self_eq_true,Bool.not_true,cond_false,cond_true,nc,nn]
theorem nsL (k_:Bool→α) (a b:Rows) (qj:Gk (.sl [.i,.i,.i,.i,.i,.i,.i]) (.sl a)) (aF:same a b=true):∃N,nd8 (fun r=>ra.na r 0) jK k_ N a b=k_ (px a b):=by
 exact nwL (fun r=>ra.na r 0) jK k_ a b (oy qj).1 aF
def V0 (k_:Bool→α) (a b:nh):α:=
 bif DF true (same a.nI b.nI) then
  bif !(px a.nI b.nI) then k_ false
  else k_ true
 else jK
theorem njl (k_:Bool→α) (a b:nh) (aF:same a b=true):V0 jK k_ a b=k_ (px a b):=by
 obtain rfl:=rG aF
 simp only[V0,pP,px,bne_self_eq_false,beq_self_eq_true,Bool.not_true,cond_false,cond_true,nc,nn]
def nqY {α:Type} (k_:oc→α) (a:oc):α:=
 k_ a
theorem nqW {α:Type} (k_:oc→α) (a:oc):nqY k_ a=k_ (oQ a):=by
 rfl
def ngR:List DC→List DC:=fun r=>oc.enc (oQ (oc.na r 0))
theorem nn5 (k_:Rows→α) (a:Rows) (qj:Gk (.sl [.i,.i,.i,.i,.bool,.bool]) (.sl a)) (aF:sm a=true):∃N,na_ 40 [.int 0,.int 0,.int 0,.int 0,.bool false,.bool false] ngR jK k_ N a=k_ (oQ a):=by
 obtain⟨hl,hw⟩:=oy qj
 exact nwz 40 (by omega) [.int 0,.int 0,.int 0,.int 0,.bool false,.bool false] ngR jK k_ a hl aF (fun r hr=>(tl rfl).trans (by exact oc.eta (hw r hr)))
def nc3 {α:Type} (k_:Bool→α) (a b:oc):α:=
 bif a.nes != b.nes then k_ false
 else bif a.nkl != b.nkl then k_ false
 else bif a.Count != b.Count then k_ false
 else bif a.Time != b.Time then k_ false
 else bif !(a.nvP==b.nvP) then k_ false
 else bif !(a.nrX==b.nrX) then k_ false
 else k_ true
theorem nqa {α:Type} (k_:Bool→α) (a b:oc) (aF:same a b=true):nc3 k_ a b=k_ (px a b):=by
 obtain rfl:=rG aF
 simp only[nc3,pP,px,bne_self_eq_false,beq_self_eq_true,Bool.not_true,cond_false,cond_true,nc,nn]
def ZK {α:Type} (k_:Bool→α) (a b:nz):α:=
 bif a.Kind != b.Kind then k_ false
 else bif a.oX != b.oX then k_ false
 else bif a.oW != b.oW then k_ false
 else bif a.Seq != b.Seq then k_ false
 else bif a.Ack != b.Ack then k_ false
 else bif a.Flags != b.Flags then k_ false
 else bif a.uE != b.uE then k_ false
 else bif !(a.Body==b.Body) then k_ false
 else k_ true
theorem nm1 {α:Type} (k_:Bool→α) (a b:nz) (aF:same a b=true):ZK k_ a b=k_ (px a b):=by
 obtain rfl:=rG aF
 simp only[ZK,pP,px,bne_self_eq_false,beq_self_eq_true,Bool.not_true,cond_false,cond_true,nc,nn]
def ncX (k_:Bool→α) (a b:nk):α:=
 bif a.xe != b.xe then k_ false
 else bif a.xf != b.xf then k_ false
 else bif a.sO != b.sO then k_ false
 else bif a.Tos != b.Tos then k_ false
 else bif a.Id != b.Id then k_ false
 else bif a.Ttl != b.Ttl then k_ false
 else bif a.qC != b.qC then k_ false
 else bif a.rl != b.rl then k_ false
 else bif DF true (same a.rZ b.rZ) then
   bif !(px a.rZ b.rZ) then k_ false
   else k_ true
  else jK
theorem np1 (k_:Bool→α) (a b:nk) (aF:same a b=true):ncX jK k_ a b=k_ (px a b):=by
 obtain rfl:=rG aF
 simp only[ncX,pP,px,bne_self_eq_false,beq_self_eq_true,Bool.not_true,cond_false,cond_true,nc,nn]
def nlS {α:Type} (k_:oC→α) (a:oC):α:=
 k_ a
theorem nlQ {α:Type} (k_:oC→α) (a:oC):nlS k_ a=k_ (oQ a):=by
 rfl
def yO (k_:Bool→α) (a b:Rows) (ov:Int→α) (i:Int):α:=
 bif decide (i<len a) then
  bif DF (DF true (idx i a)) (idx i b) then
   bif !((rS (nth a (Int.toNat i)) 0)==(rS (nth b (Int.toNat i)) 0)) then k_ false
   else ov (nK (i+1))
  else jK
 else k_ true
def yN (k_:Bool→α) (N:Nat) (a b:Rows) (m_:Nat):Int→α:=
 Nat.rec (motive:=fun _=>Int→α) (fun _=>jK) (fun _ ov=>yO jK k_ a b ov) m_
theorem Uu (k_:Bool→α) (N:Nat) (a b:Rows) (m_:Nat):yN jK k_ N a b (m_+1)=yO jK k_ a b (yN jK k_ N a b m_):=rfl
def RT {α:Type} (jK:α) (k_:Bool→α) (l0:Int→α) (a b:Rows):α:=
 bif (len a) != (len b) then k_ false
 else l0 0
def ZQ (k_:Bool→α) (N:Nat) (a b:Rows):α:=RT jK k_ (yN jK k_ N a b N) a b
theorem nm6 (k_:Bool→α) (a b:Rows) (qj:Gk (.sl [.str]) (.sl a)) (aF:same a b=true):∃N,ZQ jK k_ N a b=k_ (px a b):=by
 obtain rfl:=rG aF
 obtain⟨hl,_⟩:=oy qj
 refine⟨a.length+1, ?_⟩
 unfold ZQ RT
 simp only[bne_self_eq_false,cond_false]
 refine (qW a (yN jK k_ (a.length+1) a a) (fun _ _ c=>c) (k_ true) ?_ ?_).trans (nrM _ _ _)
 ·intro n i h
  rw[Uu]
  simp only[yO,oV h,nT h,n_ h hl,Int.toNat_natCast,nc,nn,cond_true,cond_false,bne_self_eq_false,beq_self_eq_true,Bool.not_true,pP,px]
 ·intro n
  rw[Uu]
  simp only[yO,nQ,cond_false]
def Y7 {α:Type} (k_:nr→α) (a:nr):α:=
 k_ a
theorem Y5 {α:Type} (k_:nr→α) (a:nr):Y7 k_ a=k_ (oQ a):=by
 rfl
def nc1 (k_:Bool→α) (a b:oz):α:=
 bif DF true (same a.Vc b.Vc) then
  bif !(px a.Vc b.Vc) then k_ false
  else bif a.Next != b.Next then k_ false
  else bif !(a.Data==b.Data) then k_ false
  else bif !(a.nyZ==b.nyZ) then k_ false
  else k_ true
 else jK
theorem np9 (k_:Bool→α) (a b:oz) (aF:same a b=true):nc1 jK k_ a b=k_ (px a b):=by
 obtain rfl:=rG aF
 simp only[nc1,pP,px,bne_self_eq_false,beq_self_eq_true,Bool.not_true,cond_false,cond_true,nc,nn]
def OQ (k_:Bool→α) (a b:Rows) (ov:Int→α) (i:Int):α:=
 bif decide (i<len a) then
  bif DF (DF true (idx i a)) (idx i b) then
   bif !((rB (nth a (Int.toNat i)) 0)==(rB (nth b (Int.toNat i)) 0)) then k_ false
   else ov (nK (i+1))
  else jK
 else k_ true
def OP (k_:Bool→α) (N:Nat) (a b:Rows) (m_:Nat):Int→α:=
 Nat.rec (motive:=fun _=>Int→α) (fun _=>jK) (fun _ ov=>OQ jK k_ a b ov) m_
theorem XQ (k_:Bool→α) (N:Nat) (a b:Rows) (m_:Nat):OP jK k_ N a b (m_+1)=OQ jK k_ a b (OP jK k_ N a b m_):=rfl
def VY {α:Type} (jK:α) (k_:Bool→α) (l0:Int→α) (a b:Rows):α:=
 bif (len a) != (len b) then k_ false
 else l0 0
def ne5 (k_:Bool→α) (N:Nat) (a b:Rows):α:=VY jK k_ (OP jK k_ N a b N) a b
theorem nsz (k_:Bool→α) (a b:Rows) (qj:Gk (.sl [.bool]) (.sl a)) (aF:same a b=true):∃N,ne5 jK k_ N a b=k_ (px a b):=by
 obtain rfl:=rG aF
 obtain⟨hl,_⟩:=oy qj
 refine⟨a.length+1, ?_⟩
 unfold ne5 VY
 simp only[bne_self_eq_false,cond_false]
 refine (qW a (OP jK k_ (a.length+1) a a) (fun _ _ c=>c) (k_ true) ?_ ?_).trans (nrM _ _ _)
 ·intro n i h
  rw[XQ]
  simp only[OQ,oV h,nT h,n_ h hl,Int.toNat_natCast,nc,nn,cond_true,cond_false,bne_self_eq_false,beq_self_eq_true,Bool.not_true,pP,px]
 ·intro n
  rw[XQ]
  simp only[OQ,nQ,cond_false]
def ZG {α:Type} (k_:Bool→α) (a b:oZ):α:=
 bif a.nxi != b.nxi then k_ false
 else bif a.nvT != b.nvT then k_ false
 else bif a.nrW != b.nrW then k_ false
 else bif !(a.nrZ==b.nrZ) then k_ false
 else k_ true
theorem nmX {α:Type} (k_:Bool→α) (a b:oZ) (aF:same a b=true):ZG k_ a b=k_ (px a b):=by
 obtain rfl:=rG aF
 simp only[ZG,pP,px,bne_self_eq_false,beq_self_eq_true,Bool.not_true,cond_false,cond_true,nc,nn]
theorem nk3 (k_:Bool→α) (a b:Rows) (qj:Gk (.sl [.i,.i,.i,.bool]) (.sl a)) (aF:same a b=true):∃N,nd8 (fun r=>oZ.na r 0) jK k_ N a b=k_ (px a b):=by
 exact nwL (fun r=>oZ.na r 0) jK k_ a b (oy qj).1 aF
def noD:List DC→List DC:=fun r=>ra.enc (oQ (ra.na r 0))
theorem nte (k_:Rows→α) (a:Rows) (qj:Gk (.sl [.i,.i,.i,.i,.i,.i,.i]) (.sl a)) (aF:sm a=true):∃N,na_ 56 [.int 0,.int 0,.int 0,.int 0,.int 0,.int 0,.int 0] noD jK k_ N a=k_ (oQ a):=by
 obtain⟨hl,hw⟩:=oy qj
 exact nwz 56 (by omega) [.int 0,.int 0,.int 0,.int 0,.int 0,.int 0,.int 0] noD jK k_ a hl aF (fun r hr=>(tl rfl).trans (by exact ra.eta (hw r hr)))
def xU (k_:nh→α) (a:nh):α:=
 bif DF true (sm a.nI) then
  k_ (⟨oQ a.nI⟩:nh)
 else jK
def tu (a:nh):Bool:=xU false (fun _=>true) a
theorem njN (k_:nh→α) (a:nh) (aF:tu a=true):xU jK k_ a=k_ (oQ a):=by
 exact rC (fun _=>rfl) aF
def ngQ:List DC→List DC:=fun r=>[.str (rS r 0)]
theorem nn2 (k_:Rows→α) (a:Rows) (qj:Gk (.sl [.str]) (.sl a)) (aF:sm a=true):∃N,na_ 16 [.str []] ngQ jK k_ N a=k_ (oQ a):=by
 obtain⟨hl,hw⟩:=oy qj
 exact nwz 16 (by omega) [.str []] ngQ jK k_ a hl aF (fun r hr=>(tl rfl).trans (by exact nwj (hw r hr)))
def OW (k_:nd→α) (a:nd):α:=
 bif DF true (sm a.nV) then
  k_ (⟨oQ a.nV⟩:nd)
 else jK
def vi (a:nd):Bool:=OW false (fun _=>true) a
theorem nqI (k_:nd→α) (a:nd) (aF:vi a=true):OW jK k_ a=k_ (oQ a):=by
 exact rC (fun _=>rfl) aF
def nnS {α:Type} (k_:oZ→α) (a:oZ):α:=
 k_ a
theorem nnQ {α:Type} (k_:oZ→α) (a:oZ):nnS k_ a=k_ (oQ a):=by
 rfl
def nbN:List DC→List DC:=fun r=>oZ.enc (oQ (oZ.na r 0))
theorem nlT (k_:Rows→α) (a:Rows) (qj:Gk (.sl [.i,.i,.i,.bool]) (.sl a)) (aF:sm a=true):∃N,na_ 32 [.int 0,.int 0,.int 0,.bool false] nbN jK k_ N a=k_ (oQ a):=by
 obtain⟨hl,hw⟩:=oy qj
 exact nwz 32 (by omega) [.int 0,.int 0,.int 0,.bool false] nbN jK k_ a hl aF (fun r hr=>(tl rfl).trans (by exact oZ.eta (hw r hr)))
def nu8 {α:Type} (k_:ny→α) (a:ny):α:=
 k_ a
theorem nu7 {α:Type} (k_:ny→α) (a:ny):nu8 k_ a=k_ (oQ a):=by
 rfl
def nuf:List DC→List DC:=fun r=>[.int (rI r 0)]
theorem nu5 (k_:Rows→α) (a:Rows) (qj:Gk (.sl [.i]) (.sl a)) (aF:sm a=true):∃N,na_ 8 [.int 0] nuf jK k_ N a=k_ (oQ a):=by
 obtain⟨hl,hw⟩:=oy qj
 exact nwz 8 (by omega) [.int 0] nuf jK k_ a hl aF (fun r hr=>(tl rfl).trans (by exact nza (hw r hr)))
def SJ (k_:nE→α) (a:nE):α:=
 bif DF true (sm a.py) then
  k_ (⟨a.oR,a.nR,a.Count,oQ a.py⟩:nE)
 else jK
def tf (a:nE):Bool:=SJ false (fun _=>true) a
theorem nu6 (k_:nE→α) (a:nE) (aF:tf a=true):SJ jK k_ a=k_ (oQ a):=by
 exact rC (fun _=>rfl) aF
def SK (k_:pe→α) (a:pe):α:=
 bif DF true (sm a.PU) then
  k_ (⟨a.RI,a.nI,oQ a.PU⟩:pe)
 else jK
def uv (a:pe):Bool:=SK false (fun _=>true) a
theorem nvb (k_:pe→α) (a:pe) (aF:uv a=true):SK jK k_ a=k_ (oQ a):=by
 exact rC (fun _=>rfl) aF
def O0 (k_:Rows→α) (a:Rows) (ov:Int→Rows→α) (i:Int) (nD:Rows):α:=
 bif decide (i<len a) then
  bif DF (DF (DF (DF true (idx i a)) (uv (pe.na (nth a (Int.toNat i)) 0))) (idx i nD)) ((inl (Int.toNat i) nD) && true) then
   ov (nK (i+1)) (List.set nD (Int.toNat i) (bF (nth nD (Int.toNat i)) 0 (pe.enc (oQ (pe.na (nth a (Int.toNat i)) 0)))))
  else jK
 else k_ nD
def OZ (k_:Rows→α) (N:Nat) (a:Rows) (m_:Nat):Int→Rows→α:=
 Nat.rec (motive:=fun _=>Int→Rows→α) (fun _ _=>jK) (fun _ ov=>O0 jK k_ a ov) m_
theorem Yo (k_:Rows→α) (N:Nat) (a:Rows) (m_:Nat):OZ jK k_ N a (m_+1)=O0 jK k_ a (OZ jK k_ N a m_):=rfl
def WI (k_:Rows→α) (l0:Int→Rows→α) (a:Rows):α:=
 bif DF true (xo 40 (len a) (len a)) then
  l0 0 (List.replicate (Int.toNat (len a)) (([.int 0,.int 0,.sl []]):List DC))
 else jK
def nfR (k_:Rows→α) (N:Nat) (a:Rows):α:=WI jK k_ (OZ jK k_ N a N) a
def tG (a:Rows):Bool:=sm a && a.all fun r=>uv (pe.na r 0)
theorem ntb (k_:Rows→α) (a:Rows) (qj:Gk (.sl [.i,.i,.sl [.i]]) (.sl a)) (aF:tG a=true):∃N,nfR jK k_ N a=k_ (oQ a):=by
 obtain⟨hl,hw⟩:=oy qj
 simp only[tG,Bool.and_eq_true,List.all_eq_true] at aF
 obtain⟨Is,hel⟩:=aF
 refine⟨a.length+1, ?_⟩
 unfold nfR WI
 have e0:Int.toNat (len a)=a.length:=by simp [len]
 simp only[nwe Is (show 40≤8388608 by omega),nc,cond_true,e0]
 refine nr4 a (OZ jK k_ (a.length+1) a) k_ [.int 0,.int 0,.sl []] (fun o r=>bF o 0 (pe.enc (oQ (pe.na r 0)))) ?_ ?_ ?_
 ·intro n i out h ho
  have he2:=hel (nth a i) (uB h)
  rw[Yo]
  simp only[O0,oV h,nT h,nv0 ho h,vL (show i<out.length by omega),n_ h hl,Int.toNat_natCast,Bool.and_true,nc,nn,cond_true,he2]
  try rfl
 ·intro n out ho
  rw[Yo]
  simp only[O0,nQ,cond_false]
 ·intro r hr
  refine (tl ?_).trans ?_
  ·rfl
  ·exact pe.eta (hw r hr)
def Ni (k_:ng→α) (a:ng):α:=
 bif DF true (tf a.n7) then
  bif DF true (tG a.ni) then
   k_ (⟨oQ a.Ring,oQ a.n7,oQ a.ni,a.Next⟩:ng)
  else jK
 else jK
def uA (a:ng):Bool:=Ni false (fun _=>true) a
theorem nn3 (k_:ng→α) (a:ng) (aF:uA a=true):Ni jK k_ a=k_ (oQ a):=by
 exact rC (rC (fun _=>rfl)) aF
def nnY {α:Type} (k_:nz→α) (a:nz):α:=
 k_ a
theorem nnW {α:Type} (k_:nz→α) (a:nz):nnY k_ a=k_ (oQ a):=by
 rfl
def nqM {α:Type} (k_:nk→α) (a:nk):α:=
 k_ (⟨a.xe,a.xf,a.sO,a.Tos,a.Id,a.Ttl,a.qC,a.rl,oQ a.rZ⟩:nk)
theorem nqK {α:Type} (k_:nk→α) (a:nk):nqM k_ a=k_ (oQ a):=by
 rfl
def ntk {α:Type} (k_:pA→α) (a:pA):α:=
 k_ (⟨oQ a.pI,a.nR,a.Count⟩:pA)
theorem nti {α:Type} (k_:pA→α) (a:pA):ntk k_ a=k_ (oQ a):=by
 rfl
def nnV {α:Type} (k_:nP→α) (a:nP):α:=
 k_ (⟨oQ a.Ring,oQ a.Device,oQ a.Driver,oQ a.va,a.nkj,a.nkh⟩:nP)
theorem nnT {α:Type} (k_:nP→α) (a:nP):nnV k_ a=k_ (oQ a):=by
 rfl
def nbO:List DC→List DC:=fun r=>nP.enc (oQ (nP.na r 0))
theorem nlW (k_:Rows→α) (a:Rows) (qj:Gk (.sl [.i,.i,.i,.i,.i,.i,.i,.i,.i,.i,.i,.i,.i,.i,.i,.i,.i,.i,.i,.i,.i,.i,.i,.i,.i,.str,.i,.i,.bool,.i]) (.sl a)) (aF:sm a=true):∃N,na_ 248 [.int 0,.int 0,.int 0,.int 0,.int 0,.int 0,.int 0,.int 0,.int 0,.int 0,.int 0,.int 0,.int 0,.int 0,.int 0,.int 0,.int 0,.int 0,.int 0,.int 0,.int 0,.int 0,.int 0,.int 0,.int 0,.str [],.int 0,.int 0,.bool false,.int 0] nbO jK k_ N a=k_ (oQ a):=by
 obtain⟨hl,hw⟩:=oy qj
 exact nwz 248 (by omega) [.int 0,.int 0,.int 0,.int 0,.int 0,.int 0,.int 0,.int 0,.int 0,.int 0,.int 0,.int 0,.int 0,.int 0,.int 0,.int 0,.int 0,.int 0,.int 0,.int 0,.int 0,.int 0,.int 0,.int 0,.int 0,.str [],.int 0,.int 0,.bool false,.int 0] nbO jK k_ a hl aF (fun r hr=>(tl rfl).trans (by exact nP.eta (hw r hr)))
def OY (k_:Rows→α) (a:Rows) (ov:Int→Rows→α) (i:Int) (nD:Rows):α:=
 bif decide (i<len a) then
  bif DF (DF (DF (DF true (idx i a)) (tf (nE.na (nth a (Int.toNat i)) 0))) (idx i nD)) ((inl (Int.toNat i) nD) && true) then
   ov (nK (i+1)) (List.set nD (Int.toNat i) (bF (nth nD (Int.toNat i)) 0 (nE.enc (oQ (nE.na (nth a (Int.toNat i)) 0)))))
  else jK
 else k_ nD
def OX (k_:Rows→α) (N:Nat) (a:Rows) (m_:Nat):Int→Rows→α:=
 Nat.rec (motive:=fun _=>Int→Rows→α) (fun _ _=>jK) (fun _ ov=>OY jK k_ a ov) m_
theorem Yk (k_:Rows→α) (N:Nat) (a:Rows) (m_:Nat):OX jK k_ N a (m_+1)=OY jK k_ a (OX jK k_ N a m_):=rfl
def WE (k_:Rows→α) (l0:Int→Rows→α) (a:Rows):α:=
 bif DF true (xo 48 (len a) (len a)) then
  l0 0 (List.replicate (Int.toNat (len a)) (([.int 0,.int 0,.int 0,.sl []]):List DC))
 else jK
def nfK (k_:Rows→α) (N:Nat) (a:Rows):α:=WE jK k_ (OX jK k_ N a N) a
def uH (a:Rows):Bool:=sm a && a.all fun r=>tf (nE.na r 0)
theorem ns6 (k_:Rows→α) (a:Rows) (qj:Gk (.sl [.i,.i,.i,.sl [.i]]) (.sl a)) (aF:uH a=true):∃N,nfK jK k_ N a=k_ (oQ a):=by
 obtain⟨hl,hw⟩:=oy qj
 simp only[uH,Bool.and_eq_true,List.all_eq_true] at aF
 obtain⟨Is,hel⟩:=aF
 refine⟨a.length+1, ?_⟩
 unfold nfK WE
 have e0:Int.toNat (len a)=a.length:=by simp [len]
 simp only[nwe Is (show 48≤8388608 by omega),nc,cond_true,e0]
 refine nr4 a (OX jK k_ (a.length+1) a) k_ [.int 0,.int 0,.int 0,.sl []] (fun o r=>bF o 0 (nE.enc (oQ (nE.na r 0)))) ?_ ?_ ?_
 ·intro n i out h ho
  have he2:=hel (nth a i) (uB h)
  rw[Yk]
  simp only[OY,oV h,nT h,nv0 ho h,vL (show i<out.length by omega),n_ h hl,Int.toNat_natCast,Bool.and_true,nc,nn,cond_true,he2]
  try rfl
 ·intro n out ho
  rw[Yk]
  simp only[OY,nQ,cond_false]
 ·intro r hr
  refine (tl ?_).trans ?_
  ·rfl
  ·exact nE.eta (hw r hr)
def noA:List DC→List DC:=fun r=>[.bool (rB r 0)]
theorem ns3 (k_:Rows→α) (a:Rows) (qj:Gk (.sl [.bool]) (.sl a)) (aF:sm a=true):∃N,na_ 1 [.bool false] noA jK k_ N a=k_ (oQ a):=by
 obtain⟨hl,hw⟩:=oy qj
 exact nwz 1 (by omega) [.bool false] noA jK k_ a hl aF (fun r hr=>(tl rfl).trans (by exact nyN (hw r hr)))
def OV (k_:nH→α) (a:nH):α:=
 bif DF true (sm a.qd) then
  k_ (⟨a.Mac,a.ql,oQ a.qd⟩:nH)
 else jK
def vh (a:nH):Bool:=OV false (fun _=>true) a
theorem nqG (k_:nH→α) (a:nH) (aF:vh a=true):OV jK k_ a=k_ (oQ a):=by
 exact rC (fun _=>rfl) aF
def nva {α:Type} (k_:pF→α) (a:pF):α:=
 k_ a
theorem nu9 {α:Type} (k_:pF→α) (a:pF):nva k_ a=k_ (oQ a):=by
 rfl
def noC:List DC→List DC:=fun r=>pF.enc (oQ (pF.na r 0))
theorem ns9 (k_:Rows→α) (a:Rows) (qj:Gk (.sl [.i,.i,.i,.i,.i,.i,.i,.i,.i]) (.sl a)) (aF:sm a=true):∃N,na_ 72 [.int 0,.int 0,.int 0,.int 0,.int 0,.int 0,.int 0,.int 0,.int 0] noC jK k_ N a=k_ (oQ a):=by
 obtain⟨hl,hw⟩:=oy qj
 exact nwz 72 (by omega) [.int 0,.int 0,.int 0,.int 0,.int 0,.int 0,.int 0,.int 0,.int 0] noC jK k_ a hl aF (fun r hr=>(tl rfl).trans (by exact pF.eta (hw r hr)))
def O1 (k_:nJ→α) (a:nJ):α:=
 bif DF true (sm a.Table) then
  k_ (⟨a.Key,oQ a.Table⟩:nJ)
 else jK
def vj (a:nJ):Bool:=O1 false (fun _=>true) a
theorem nqR (k_:nJ→α) (a:nJ) (aF:vj a=true):O1 jK k_ a=k_ (oQ a):=by
 exact rC (fun _=>rfl) aF
def y8 (k_:nj→α) (a:nj):α:=
 bif DF true (sm a.oY) then
  bif DF true (tu a.Table) then
   bif DF true (vj a.oO) then
    k_ (⟨oQ a.oY,oQ a.Table,oQ a.oO⟩:nj)
   else jK
  else jK
 else jK
def tX (a:nj):Bool:=y8 false (fun _=>true) a
theorem nlZ (k_:nj→α) (a:nj) (aF:tX a=true):y8 jK k_ a=k_ (oQ a):=by
 exact rC (rC (rC (fun _=>rfl))) aF
def nqV {α:Type} (k_:oz→α) (a:oz):α:=
 k_ (⟨oQ a.Vc,a.Next,a.Data,a.nyZ⟩:oz)
theorem nqT {α:Type} (k_:oz→α) (a:oz):nqV k_ a=k_ (oQ a):=by
 rfl
def ngP:List DC→List DC:=fun r=>oz.enc (oQ (oz.na r 0))
theorem nnZ (k_:Rows→α) (a:Rows) (qj:Gk (.sl [.i,.i,.i,.i,.i,.i,.str,.bool]) (.sl a)) (aF:sm a=true):∃N,na_ 72 [.int 0,.int 0,.int 0,.int 0,.int 0,.int 0,.str [],.bool false] ngP jK k_ N a=k_ (oQ a):=by
 obtain⟨hl,hw⟩:=oy qj
 exact nwz 72 (by omega) [.int 0,.int 0,.int 0,.int 0,.int 0,.int 0,.str [],.bool false] ngP jK k_ a hl aF (fun r hr=>(tl rfl).trans (by exact oz.eta (hw r hr)))
def SI (k_:nx→α) (a:nx):α:=
 bif DF true (vi a.oB) then
  bif DF true (sm a.Maps) then
   bif DF true (uA a.Tx) then
    bif DF true (sm a.Rx) then
     bif DF true (uH a.oA) then
      bif DF true (sm a.ou) then
       bif DF true (sm a.pk) then
        bif DF true (vh a.Filter) then
         bif DF true (tX a.nA) then
          bif DF true (sm a.p6) then
           bif DF true (sm a.vN) then
            bif DF true (sm a.oP) then
             bif DF true (sm a.pU) then
              k_ (⟨oQ a.oB,oQ a.Maps,oQ a.Tx,oQ a.Rx,oQ a.oA,oQ a.ou,oQ a.pk,oQ a.Filter,oQ a.nA,oQ a.p6,a.sF,oQ a.vN,oQ a.oP,oQ a.pU,oQ a.Counters⟩:nx)
             else jK
            else jK
           else jK
          else jK
         else jK
        else jK
       else jK
      else jK
     else jK
    else jK
   else jK
  else jK
 else jK
def te (a:nx):Bool:=SI false (fun _=>true) a
theorem nu3 (k_:nx→α) (a:nx) (aF:te a=true):SI jK k_ a=k_ (oQ a):=by
 exact rC (rC (rC (rC (rC (rC (rC (rC (rC (rC (rC (rC (rC (fun _=>rfl))))))))))))) aF
def niA (k_:Bool→α) (a b:pe):α:=
 bif a.RI != b.RI then k_ false
 else bif a.nI != b.nI then k_ false
 else bif DF true (same a.PU b.PU) then
   bif !(px a.PU b.PU) then k_ false
   else k_ true
  else jK
theorem nuS (k_:Bool→α) (a b:pe) (aF:same a b=true):niA jK k_ a b=k_ (px a b):=by
 obtain rfl:=rG aF
 simp only[niA,pP,px,bne_self_eq_false,beq_self_eq_true,Bool.not_true,cond_false,cond_true,nc,nn]
theorem nsI (k_:Bool→α) (a b:Rows) (qj:Gk (.sl [.i,.i,.sl [.i]]) (.sl a)) (aF:same a b=true):∃N,nd8 (fun r=>pe.na r 0) jK k_ N a b=k_ (px a b):=by
 exact nwL (fun r=>pe.na r 0) jK k_ a b (oy qj).1 aF
def niy {α:Type} (k_:Bool→α) (a b:pF):α:=
 bif a.Priority != b.Priority then k_ false
 else bif a.Kind != b.Kind then k_ false
 else bif a.qC != b.qC then k_ false
 else bif a.nrJ != b.nrJ then k_ false
 else bif a.Ze != b.Ze then k_ false
 else bif a.ner != b.ner then k_ false
 else bif a.sO != b.sO then k_ false
 else bif a.Action != b.Action then k_ false
 else bif a.Queue != b.Queue then k_ false
 else k_ true
theorem nuQ {α:Type} (k_:Bool→α) (a b:pF) (aF:same a b=true):niy k_ a b=k_ (px a b):=by
 obtain rfl:=rG aF
 simp only[niy,pP,px,bne_self_eq_false,beq_self_eq_true,Bool.not_true,cond_false,cond_true,nc,nn]
theorem nsF (k_:Bool→α) (a b:Rows) (qj:Gk (.sl [.i,.i,.i,.i,.i,.i,.i,.i,.i]) (.sl a)) (aF:same a b=true):∃N,nd8 (fun r=>pF.na r 0) jK k_ N a b=k_ (px a b):=by
 exact nwL (fun r=>pF.na r 0) jK k_ a b (oy qj).1 aF
def ncZ (k_:Bool→α) (a b:nJ):α:=
 bif !(a.Key==b.Key) then k_ false
 else bif DF true (same a.Table b.Table) then
   bif !(px a.Table b.Table) then k_ false
   else k_ true
  else jK
theorem np7 (k_:Bool→α) (a b:nJ) (aF:same a b=true):ncZ jK k_ a b=k_ (px a b):=by
 obtain rfl:=rG aF
 simp only[ncZ,pP,px,bne_self_eq_false,beq_self_eq_true,Bool.not_true,cond_false,cond_true,nc,nn]
def X0 (k_:Bool→α) (a b:nj):α:=
 bif DF true (same a.oY b.oY) then
  bif !(px a.oY b.oY) then k_ false
  else bif DF true (same a.Table b.Table) then
    bif !(px a.Table b.Table) then k_ false
    else bif DF true (same a.oO b.oO) then
      bif !(px a.oO b.oO) then k_ false
      else k_ true
     else jK
   else jK
 else jK
theorem nk9 (k_:Bool→α) (a b:nj) (aF:same a b=true):X0 jK k_ a b=k_ (px a b):=by
 obtain rfl:=rG aF
 simp only[X0,pP,px,bne_self_eq_false,beq_self_eq_true,Bool.not_true,cond_false,cond_true,nc,nn]
def niw {α:Type} (k_:Bool→α) (a b:ny):α:=
 bif a.oR != b.oR then k_ false
 else bif a.nR != b.nR then k_ false
 else bif a.Head != b.Head then k_ false
 else bif a.pV != b.pV then k_ false
 else k_ true
theorem nuP {α:Type} (k_:Bool→α) (a b:ny) (aF:same a b=true):niw k_ a b=k_ (px a b):=by
 obtain rfl:=rG aF
 simp only[niw,pP,px,bne_self_eq_false,beq_self_eq_true,Bool.not_true,cond_false,cond_true,nc,nn]
def Od {α:Type} (k_:Bool→α) (a b:nr):α:=
 bif a.oR != b.oR then k_ false
 else bif a.nR != b.nR then k_ false
 else bif a.Count != b.Count then k_ false
 else k_ true
theorem YY {α:Type} (k_:Bool→α) (a b:nr) (aF:same a b=true):Od k_ a b=k_ (px a b):=by
 obtain rfl:=rG aF
 simp only[Od,pP,px,bne_self_eq_false,beq_self_eq_true,Bool.not_true,cond_false,cond_true,nc,nn]
def nfi (k_:Bool→α) (a b:pA):α:=
 bif DF true (same a.pI b.pI) then
  bif !(px a.pI b.pI) then k_ false
  else bif a.nR != b.nR then k_ false
  else bif a.Count != b.Count then k_ false
  else k_ true
 else jK
theorem nsO (k_:Bool→α) (a b:pA) (aF:same a b=true):nfi jK k_ a b=k_ (px a b):=by
 obtain rfl:=rG aF
 simp only[nfi,pP,px,bne_self_eq_false,beq_self_eq_true,Bool.not_true,cond_false,cond_true,nc,nn]
def ZI (k_:Bool→α) (a b:nP):α:=
 bif DF true (same a.Ring b.Ring) then
  bif !(px a.Ring b.Ring) then k_ false
  else bif DF true (same a.Device b.Device) then
    bif !(px a.Device b.Device) then k_ false
    else bif DF true (same a.Driver b.Driver) then
      bif !(px a.Driver b.Driver) then k_ false
      else bif DF true (same a.va b.va) then
        bif !(px a.va b.va) then k_ false
        else bif !(a.nkj==b.nkj) then k_ false
        else bif a.nkh != b.nkh then k_ false
        else k_ true
       else jK
     else jK
   else jK
 else jK
theorem nmZ (k_:Bool→α) (a b:nP) (aF:same a b=true):ZI jK k_ a b=k_ (px a b):=by
 obtain rfl:=rG aF
 simp only[ZI,pP,px,bne_self_eq_false,beq_self_eq_true,Bool.not_true,cond_false,cond_true,nc,nn]
theorem nk6 (k_:Bool→α) (a b:Rows) (qj:Gk (.sl [.i,.i,.i,.i,.i,.i,.i,.i,.i,.i,.i,.i,.i,.i,.i,.i,.i,.i,.i,.i,.i,.i,.i,.i,.i,.str,.i,.i,.bool,.i]) (.sl a)) (aF:same a b=true):∃N,nd8 (fun r=>nP.na r 0) jK k_ N a b=k_ (px a b):=by
 exact nwL (fun r=>nP.na r 0) jK k_ a b (oy qj).1 aF
def ZT (k_:Bool→α) (a b:ng):α:=
 bif DF true (same a.Ring b.Ring) then
  bif !(px a.Ring b.Ring) then k_ false
  else bif DF true (same a.n7 b.n7) then
    bif !(px a.n7 b.n7) then k_ false
    else bif DF true (same a.ni b.ni) then
      bif !(px a.ni b.ni) then k_ false
      else bif a.Next != b.Next then k_ false
      else k_ true
     else jK
   else jK
 else jK
theorem nm7 (k_:Bool→α) (a b:ng) (aF:same a b=true):ZT jK k_ a b=k_ (px a b):=by
 obtain rfl:=rG aF
 simp only[ZT,pP,px,bne_self_eq_false,beq_self_eq_true,Bool.not_true,cond_false,cond_true,nc,nn]
def ncV (k_:Bool→α) (a b:nd):α:=
 bif DF true (same a.nV b.nV) then
  bif !(px a.nV b.nV) then k_ false
  else k_ true
 else jK
theorem npZ (k_:Bool→α) (a b:nd) (aF:same a b=true):ncV jK k_ a b=k_ (px a b):=by
 obtain rfl:=rG aF
 simp only[ncV,pP,px,bne_self_eq_false,beq_self_eq_true,Bool.not_true,cond_false,cond_true,nc,nn]
theorem nm3 (k_:Bool→α) (a b:Rows) (qj:Gk (.sl [.i,.i,.i,.i,.i,.i,.str,.bool]) (.sl a)) (aF:same a b=true):∃N,nd8 (fun r=>oz.na r 0) jK k_ N a b=k_ (px a b):=by
 exact nwL (fun r=>oz.na r 0) jK k_ a b (oy qj).1 aF
theorem nm9 (k_:Bool→α) (a b:Rows) (qj:Gk (.sl [.i,.i,.i,.i,.bool,.bool]) (.sl a)) (aF:same a b=true):∃N,nd8 (fun r=>oc.na r 0) jK k_ N a b=k_ (px a b):=by
 exact nwL (fun r=>oc.na r 0) jK k_ a b (oy qj).1 aF
def XS {α:Type} (k_:Bool→α) (a b:oC):α:=
 bif a.Frames != b.Frames then k_ false
 else bif a.Bad != b.Bad then k_ false
 else bif a.sR != b.sR then k_ false
 else bif a.uQ != b.uQ then k_ false
 else bif a.PW != b.PW then k_ false
 else k_ true
theorem nk1 {α:Type} (k_:Bool→α) (a b:oC) (aF:same a b=true):XS k_ a b=k_ (px a b):=by
 obtain rfl:=rG aF
 simp only[XS,pP,px,bne_self_eq_false,beq_self_eq_true,Bool.not_true,cond_false,cond_true,nc,nn]
def ncT (k_:Bool→α) (a b:nH):α:=
 bif a.Mac != b.Mac then k_ false
 else bif !(a.ql==b.ql) then k_ false
 else bif DF true (same a.qd b.qd) then
   bif !(px a.qd b.qd) then k_ false
   else k_ true
  else jK
theorem npX (k_:Bool→α) (a b:nH) (aF:same a b=true):ncT jK k_ a b=k_ (px a b):=by
 obtain rfl:=rG aF
 simp only[ncT,pP,px,bne_self_eq_false,beq_self_eq_true,Bool.not_true,cond_false,cond_true,nc,nn]
def nip (k_:Bool→α) (a b:nx):α:=
 bif DF true (same a.oB b.oB) then
  bif !(px a.oB b.oB) then k_ false
  else bif DF true (same a.Maps b.Maps) then
    bif !(px a.Maps b.Maps) then k_ false
    else bif DF true (same a.Tx b.Tx) then
      bif !(px a.Tx b.Tx) then k_ false
      else bif DF true (same a.Rx b.Rx) then
        bif !(px a.Rx b.Rx) then k_ false
        else bif DF true (same a.oA b.oA) then
          bif !(px a.oA b.oA) then k_ false
          else bif DF true (same a.ou b.ou) then
            bif !(px a.ou b.ou) then k_ false
            else bif DF true (same a.pk b.pk) then
              bif !(px a.pk b.pk) then k_ false
              else bif DF true (same a.Filter b.Filter) then
                bif !(px a.Filter b.Filter) then k_ false
                else bif DF true (same a.nA b.nA) then
                  bif !(px a.nA b.nA) then k_ false
                  else bif DF true (same a.p6 b.p6) then
                    bif !(px a.p6 b.p6) then k_ false
                    else bif !(a.sF==b.sF) then k_ false
                    else bif DF true (same a.vN b.vN) then
                      bif !(px a.vN b.vN) then k_ false
                      else bif DF true (same a.oP b.oP) then
                        bif !(px a.oP b.oP) then k_ false
                        else bif DF true (same a.pU b.pU) then
                          bif !(px a.pU b.pU) then k_ false
                          else bif DF true (same a.Counters b.Counters) then
                            bif !(px a.Counters b.Counters) then k_ false
                            else k_ true
                           else jK
                         else jK
                       else jK
                     else jK
                   else jK
                 else jK
               else jK
             else jK
           else jK
         else jK
       else jK
     else jK
   else jK
 else jK
theorem nuL (k_:Bool→α) (a b:nx) (aF:same a b=true):nip jK k_ a b=k_ (px a b):=by
 obtain rfl:=rG aF
 simp only[nip,pP,px,bne_self_eq_false,beq_self_eq_true,Bool.not_true,cond_false,cond_true,nc,nn]
theorem QT {a:Rows} {left:Int} (vQ:Gk (.sl [.str]) (.sl a)) (h1:0≤left) (h2:left≤1048576) (h0:0≤qp a left):qp a left≤1048576∧sm a=true:=by
 obtain⟨hl,hw⟩:=oy vQ
 have h3:=ngN (P:=fun _=>True) (fun r hr l hl0 F1 h=>⟨(nwx (xv (show Gk .str (.str (rS r 0)) by have:=hw r hr;rw[←nwj this] at this;exact (nxD this).1)) hl0 F1 h).1,trivial⟩) h1 h2 hl h0
 exact⟨h3.1,h3.2.1⟩
theorem Sa {a:nd} {left:Int} (vQ:jI nd.ct a.enc) (h1:0≤left) (h2:left≤1048576) (h0:0≤oa a left):oa a left≤1048576∧vi a=true:=by
 simp only[oa,TQ,id] at h0 ⊢
 by_cases c0:qp a.nV left<0
 ·simp only[c0,decide_true,cond_true] at h0;omega
 simp only[c0,decide_false,cond_false] at h0 ⊢
 have k0:=QT (nd.xu vQ) h1 h2 (Int.not_lt.1 c0)
 exact⟨k0.1,by simp only[vi,OW,k0.2,nc,nn,cond_true]⟩
theorem QP {a:nE} {left:Int} (vQ:jI nE.ct a.enc) (h1:0≤left) (h2:left≤1048576) (h0:0≤qF a left):qF a left≤1048576∧tf a=true:=by
 simp only[qF,SG,id] at h0 ⊢
 by_cases c0:oe a.py left<0
 ·simp only[c0,decide_true,cond_true] at h0;omega
 simp only[c0,decide_false,cond_false] at h0 ⊢
 have k0:=sM h1 h2 (oy (nE.nrP vQ)).1 (Int.not_lt.1 c0)
 exact⟨k0.1,by simp only[tf,SJ,k0.2,nc,nn,cond_true]⟩
theorem nsZ {a:pe} {left:Int} (vQ:jI pe.ct a.enc) (h1:0≤left) (h2:left≤1048576) (h0:0≤rO a left):rO a left≤1048576∧uv a=true:=by
 simp only[rO,SH,id] at h0 ⊢
 by_cases c0:oe a.PU left<0
 ·simp only[c0,decide_true,cond_true] at h0;omega
 simp only[c0,decide_false,cond_false] at h0 ⊢
 have k0:=sM h1 h2 (oy (pe.nug vQ)).1 (Int.not_lt.1 c0)
 exact⟨k0.1,by simp only[uv,SK,k0.2,nc,nn,cond_true]⟩
theorem TS {a:Rows} {left:Int} (vQ:Gk (.sl [.i,.i,.sl [.i]]) (.sl a)) (h1:0≤left) (h2:left≤1048576) (h0:0≤tc a left):tc a left≤1048576∧tG a=true:=by
 obtain⟨hl,hw⟩:=oy vQ
 have h3:=ngN (P:=fun r=>uv (pe.na r 0)=true) (fun r hr l hl0 F1 h=>nsZ (by rw[pe.eta (hw r hr)];exact hw r hr) hl0 F1 h) h1 h2 hl h0
 exact⟨h3.1,by simp only[tG,Bool.and_eq_true,List.all_eq_true];exact h3.2⟩
theorem Yf {a:ng} {left:Int} (vQ:jI ng.ct a.enc) (h1:0≤left) (h2:left≤1048576) (h0:0≤n8 a left):n8 a left≤1048576∧uA a=true:=by
 simp only[n8,xn,id] at h0 ⊢
 by_cases c0:qF a.n7 left<0
 ·simp only[c0,decide_true,cond_true] at h0;omega
 simp only[c0,decide_false,cond_false] at h0 ⊢
 have k0:=QP (ng.nrS vQ) h1 h2 (Int.not_lt.1 c0)
 by_cases c1:tc a.ni (qF a.n7 left)<0
 ·simp only[c1,decide_true,cond_true] at h0;omega
 simp only[c1,decide_false,cond_false] at h0 ⊢
 have k1:=TS (ng.zF vQ) (Int.not_lt.1 c0) k0.1 (Int.not_lt.1 c1)
 exact⟨k1.1,by simp only[uA,Ni,k0.2,k1.2,nc,nn,cond_true]⟩
theorem nlL {a:nz} {left:Int} (vQ:jI nz.ct a.enc) (h1:0≤left) (h2:left≤1048576) (h0:0≤uu a left):uu a left≤1048576∧True:=by
 simp only[uu,Sc,id] at h0 ⊢
 by_cases c0:nK (left - (len a.Body))<0
 ·simp only[c0,decide_true,cond_true] at h0;omega
 simp only[c0,decide_false,cond_false] at h0 ⊢
 have k0:=nwx (xv (nz.nwA vQ)) h1 h2 (Int.not_lt.1 c0)
 exact⟨k0.1,trivial⟩
theorem nnC {a:nk} {left:Int} (vQ:jI nk.ct a.enc) (h1:0≤left) (h2:left≤1048576) (h0:0≤uY a left):uY a left≤1048576∧True:=by
 simp only[uY,TR,id] at h0 ⊢
 by_cases c0:uu a.rZ left<0
 ·simp only[c0,decide_true,cond_true] at h0;omega
 simp only[c0,decide_false,cond_false] at h0 ⊢
 have k0:=nlL (nk.nzZ vQ) h1 h2 (Int.not_lt.1 c0)
 exact⟨k0.1,trivial⟩
theorem nqE {a:pA} {left:Int} (vQ:jI pA.ct a.enc) (h1:0≤left) (h2:left≤1048576) (h0:0≤wF a left):wF a left≤1048576∧True:=by
 simp only[wF,WA,id] at h0 ⊢
 by_cases c0:uY a.pI left<0
 ·simp only[c0,decide_true,cond_true] at h0;omega
 simp only[c0,decide_false,cond_false] at h0 ⊢
 have k0:=nnC (pA.nyg vQ) h1 h2 (Int.not_lt.1 c0)
 exact⟨k0.1,trivial⟩
theorem nlK {a:nP} {left:Int} (vQ:jI nP.ct a.enc) (h1:0≤left) (h2:left≤1048576) (h0:0≤sn a left):sn a left≤1048576∧True:=by
 simp only[sn,Sb,id] at h0 ⊢
 by_cases c0:wF a.va left<0
 ·simp only[c0,decide_true,cond_true] at h0;omega
 simp only[c0,decide_false,cond_false] at h0 ⊢
 have k0:=nqE (nP.nzi vQ) h1 h2 (Int.not_lt.1 c0)
 exact⟨k0.1,trivial⟩
theorem Ww {a:Rows} {left:Int} (vQ:Gk (.sl [.i,.i,.i,.i,.i,.i,.i,.i,.i,.i,.i,.i,.i,.i,.i,.i,.i,.i,.i,.i,.i,.i,.i,.i,.i,.str,.i,.i,.bool,.i]) (.sl a)) (h1:0≤left) (h2:left≤1048576) (h0:0≤oF a left):oF a left≤1048576∧sm a=true:=by
 obtain⟨hl,hw⟩:=oy vQ
 have h3:=ngN (P:=fun _=>True) (fun r hr l hl0 F1 h=>⟨(nlK (by rw[nP.eta (hw r hr)];exact hw r hr) hl0 F1 h).1,trivial⟩) h1 h2 hl h0
 exact⟨h3.1,h3.2.1⟩
theorem ndj {a:Rows} {left:Int} (vQ:Gk (.sl [.i,.i,.i,.sl [.i]]) (.sl a)) (h1:0≤left) (h2:left≤1048576) (h0:0≤pD a left):pD a left≤1048576∧uH a=true:=by
 obtain⟨hl,hw⟩:=oy vQ
 have h3:=ngN (P:=fun r=>tf (nE.na r 0)=true) (fun r hr l hl0 F1 h=>QP (by rw[nE.eta (hw r hr)];exact hw r hr) hl0 F1 h) h1 h2 hl h0
 exact⟨h3.1,by simp only[uH,Bool.and_eq_true,List.all_eq_true];exact h3.2⟩
theorem nar {a:nH} {left:Int} (vQ:jI nH.ct a.enc) (h1:0≤left) (h2:left≤1048576) (h0:0≤qe a left):qe a left≤1048576∧vh a=true:=by
 simp only[qe,TP,id] at h0 ⊢
 by_cases c0:oe a.qd left<0
 ·simp only[c0,decide_true,cond_true] at h0;omega
 simp only[c0,decide_false,cond_false] at h0 ⊢
 have k0:=sM h1 h2 (oy (nH.nuk vQ)).1 (Int.not_lt.1 c0)
 exact⟨k0.1,by simp only[vh,OV,k0.2,nc,nn,cond_true]⟩
theorem nhE {a:nh} {left:Int} (vQ:jI nh.ct a.enc) (h1:0≤left) (h2:left≤1048576) (h0:0≤sK a left):sK a left≤1048576∧tu a=true:=by
 simp only[sK,Px,id] at h0 ⊢
 by_cases c0:oe a.nI left<0
 ·simp only[c0,decide_true,cond_true] at h0;omega
 simp only[c0,decide_false,cond_false] at h0 ⊢
 have k0:=sM h1 h2 (oy (nh.Xj vQ)).1 (Int.not_lt.1 c0)
 exact⟨k0.1,by simp only[tu,xU,k0.2,nc,nn,cond_true]⟩
theorem nnH {a:nJ} {left:Int} (vQ:jI nJ.ct a.enc) (h1:0≤left) (h2:left≤1048576) (h0:0≤wQ a left):wQ a left≤1048576∧vj a=true:=by
 simp only[wQ,TU,id] at h0 ⊢
 by_cases c0:nK (left - (len a.Key))<0
 ·simp only[c0,decide_true,cond_true] at h0;omega
 simp only[c0,decide_false,cond_false] at h0 ⊢
 have k0:=nwx (xv (nJ.nzY vQ)) h1 h2 (Int.not_lt.1 c0)
 by_cases c1:oe a.Table (nK (left - (len a.Key)))<0
 ·simp only[c1,decide_true,cond_true] at h0;omega
 simp only[c1,decide_false,cond_false] at h0 ⊢
 have k1:=sM (Int.not_lt.1 c0) k0.1 (oy (nJ.Xk vQ)).1 (Int.not_lt.1 c1)
 exact⟨k1.1,by simp only[vj,O1,k0.2,k1.2,nc,nn,cond_true]⟩
theorem Wz {a:nj} {left:Int} (vQ:jI nj.ct a.enc) (h1:0≤left) (h2:left≤1048576) (h0:0≤pZ a left):pZ a left≤1048576∧tX a=true:=by
 simp only[pZ,QS,id] at h0 ⊢
 by_cases c0:oe a.oY left<0
 ·simp only[c0,decide_true,cond_true] at h0;omega
 simp only[c0,decide_false,cond_false] at h0 ⊢
 have k0:=sM h1 h2 (oy (nj.nuj vQ)).1 (Int.not_lt.1 c0)
 by_cases c1:sK a.Table (oe a.oY left)<0
 ·simp only[c1,decide_true,cond_true] at h0;omega
 simp only[c1,decide_false,cond_false] at h0 ⊢
 have k1:=nhE (nj.Xk vQ) (Int.not_lt.1 c0) k0.1 (Int.not_lt.1 c1)
 by_cases c2:wQ a.oO (sK a.Table (oe a.oY left))<0
 ·simp only[c2,decide_true,cond_true] at h0;omega
 simp only[c2,decide_false,cond_false] at h0 ⊢
 have k2:=nnH (nj.nyh vQ) (Int.not_lt.1 c1) k1.1 (Int.not_lt.1 c2)
 exact⟨k2.1,by simp only[tX,y8,k0.2,k1.2,k2.2,nc,nn,cond_true]⟩
theorem nnL {a:oz} {left:Int} (vQ:jI oz.ct a.enc) (h1:0≤left) (h2:left≤1048576) (h0:0≤sQ a left):sQ a left≤1048576∧True:=by
 simp only[sQ,TV,id] at h0 ⊢
 by_cases c0:nK (left - (len a.Data))<0
 ·simp only[c0,decide_true,cond_true] at h0;omega
 simp only[c0,decide_false,cond_false] at h0 ⊢
 have k0:=nwx (xv (oz.nzf vQ)) h1 h2 (Int.not_lt.1 c0)
 exact⟨k0.1,trivial⟩
theorem Ye {a:Rows} {left:Int} (vQ:Gk (.sl [.i,.i,.i,.i,.i,.i,.str,.bool]) (.sl a)) (h1:0≤left) (h2:left≤1048576) (h0:0≤qG a left):qG a left≤1048576∧sm a=true:=by
 obtain⟨hl,hw⟩:=oy vQ
 have h3:=ngN (P:=fun _=>True) (fun r hr l hl0 F1 h=>⟨(nnL (by rw[oz.eta (hw r hr)];exact hw r hr) hl0 F1 h).1,trivial⟩) h1 h2 hl h0
 exact⟨h3.1,h3.2.1⟩
theorem nsR {a:nx} {left:Int} (vQ:jI nx.ct a.enc) (h1:0≤left) (h2:left≤1048576) (h0:0≤ur a left):ur a left≤1048576∧te a=true:=by
 simp only[ur,Of,id] at h0 ⊢
 by_cases c0:oa a.oB left<0
 ·simp only[c0,decide_true,cond_true] at h0;omega
 simp only[c0,decide_false,cond_false] at h0 ⊢
 have k0:=Sa (nx.noH vQ) h1 h2 (Int.not_lt.1 c0)
 by_cases c1:oe a.Maps (oa a.oB left)<0
 ·simp only[c1,decide_true,cond_true] at h0;omega
 simp only[c1,decide_false,cond_false] at h0 ⊢
 have k1:=sM (Int.not_lt.1 c0) k0.1 (oy (nx.nrR vQ)).1 (Int.not_lt.1 c1)
 by_cases c2:n8 a.Tx (oe a.Maps (oa a.oB left))<0
 ·simp only[c2,decide_true,cond_true] at h0;omega
 simp only[c2,decide_false,cond_false] at h0 ⊢
 have k2:=Yf (nx.nxZ vQ) (Int.not_lt.1 c1) k1.1 (Int.not_lt.1 c2)
 by_cases c3:oF a.Rx (n8 a.Tx (oe a.Maps (oa a.oB left)))<0
 ·simp only[c3,decide_true,cond_true] at h0;omega
 simp only[c3,decide_false,cond_false] at h0 ⊢
 have k3:=Ww (nx.nyY vQ) (Int.not_lt.1 c2) k2.1 (Int.not_lt.1 c3)
 by_cases c4:pD a.oA (oF a.Rx (n8 a.Tx (oe a.Maps (oa a.oB left))))<0
 ·simp only[c4,decide_true,cond_true] at h0;omega
 simp only[c4,decide_false,cond_false] at h0 ⊢
 have k4:=ndj (nx.ngT vQ) (Int.not_lt.1 c3) k3.1 (Int.not_lt.1 c4)
 by_cases c5:oe a.ou (pD a.oA (oF a.Rx (n8 a.Tx (oe a.Maps (oa a.oB left)))))<0
 ·simp only[c5,decide_true,cond_true] at h0;omega
 simp only[c5,decide_false,cond_false] at h0 ⊢
 have k5:=sM (Int.not_lt.1 c4) k4.1 (oy (nx.nkf vQ)).1 (Int.not_lt.1 c5)
 by_cases c6:oe a.pk (oe a.ou (pD a.oA (oF a.Rx (n8 a.Tx (oe a.Maps (oa a.oB left))))))<0
 ·simp only[c6,decide_true,cond_true] at h0;omega
 simp only[c6,decide_false,cond_false] at h0 ⊢
 have k6:=sM (Int.not_lt.1 c5) k5.1 (oy (nx.nkc vQ)).1 (Int.not_lt.1 c6)
 by_cases c7:qe a.Filter (oe a.pk (oe a.ou (pD a.oA (oF a.Rx (n8 a.Tx (oe a.Maps (oa a.oB left)))))))<0
 ·simp only[c7,decide_true,cond_true] at h0;omega
 simp only[c7,decide_false,cond_false] at h0 ⊢
 have k7:=nar (nx.nvL vQ) (Int.not_lt.1 c6) k6.1 (Int.not_lt.1 c7)
 by_cases c8:pZ a.nA (qe a.Filter (oe a.pk (oe a.ou (pD a.oA (oF a.Rx (n8 a.Tx (oe a.Maps (oa a.oB left))))))))<0
 ·simp only[c8,decide_true,cond_true] at h0;omega
 simp only[c8,decide_false,cond_false] at h0 ⊢
 have k8:=Wz (nx.no_ vQ) (Int.not_lt.1 c7) k7.1 (Int.not_lt.1 c8)
 by_cases c9:qG a.p6 (pZ a.nA (qe a.Filter (oe a.pk (oe a.ou (pD a.oA (oF a.Rx (n8 a.Tx (oe a.Maps (oa a.oB left)))))))))<0
 ·simp only[c9,decide_true,cond_true] at h0;omega
 simp only[c9,decide_false,cond_false] at h0 ⊢
 have k9:=Ye (nx.nke vQ) (Int.not_lt.1 c8) k8.1 (Int.not_lt.1 c9)
 by_cases c10:qp a.vN (qG a.p6 (pZ a.nA (qe a.Filter (oe a.pk (oe a.ou (pD a.oA (oF a.Rx (n8 a.Tx (oe a.Maps (oa a.oB left))))))))))<0
 ·simp only[c10,decide_true,cond_true] at h0;omega
 simp only[c10,decide_false,cond_false] at h0 ⊢
 have k10:=QT (nx.nwB vQ) (Int.not_lt.1 c9) k9.1 (Int.not_lt.1 c10)
 by_cases c11:oe a.oP (qp a.vN (qG a.p6 (pZ a.nA (qe a.Filter (oe a.pk (oe a.ou (pD a.oA (oF a.Rx (n8 a.Tx (oe a.Maps (oa a.oB left)))))))))))<0
 ·simp only[c11,decide_true,cond_true] at h0;omega
 simp only[c11,decide_false,cond_false] at h0 ⊢
 have k11:=sM (Int.not_lt.1 c10) k10.1 (oy (nx.nbQ vQ)).1 (Int.not_lt.1 c11)
 by_cases c12:oe a.pU (oe a.oP (qp a.vN (qG a.p6 (pZ a.nA (qe a.Filter (oe a.pk (oe a.ou (pD a.oA (oF a.Rx (n8 a.Tx (oe a.Maps (oa a.oB left))))))))))))<0
 ·simp only[c12,decide_true,cond_true] at h0;omega
 simp only[c12,decide_false,cond_false] at h0 ⊢
 have k12:=sM (Int.not_lt.1 c11) k11.1 (oy (nx.ngU vQ)).1 (Int.not_lt.1 c12)
 exact⟨k12.1,by simp only[te,SI,k0.2,k1.2,k2.2,k3.2,k4.2,k5.2,k6.2,k7.2,k8.2,k9.2,k10.2,k11.2,k12.2,nc,nn,cond_true]⟩
def Nd (k_:Int→Rows→α) (ov:Int→Int→Rows→α) (rv i:Int) (ND:Rows):α:=
 bif decide (i<len ND) then
  bif DF (DF true (idx i ND)) (inl (Int.toNat i) ND) then
   ov (nK (rv+1)) (nK (i+1)) (List.set ND (Int.toNat i) (bF (nth ND (Int.toNat i)) 0 [.int rv]))
  else jK
 else k_ rv ND
def Nc (k_:Int→Rows→α) (N m_:Nat):Int→Int→Rows→α:=
 Nat.rec (motive:=fun _=>Int→Int→Rows→α) (fun _ _ _=>jK) (fun _ ov=>Nd jK k_ ov) m_
theorem Wg (k_:Int→Rows→α) (N m_:Nat):Nc jK k_ N (m_+1)=Nd jK k_ (Nc jK k_ N m_):=rfl
def TM {α:Type} (jK:α) (k_:Int→Rows→α) (l0:Int→Int→Rows→α) (a:Rows) (k:Int):α:=
 l0 k 0 a
def ndb (k_:Int→Rows→α) (N:Nat) (a:Rows) (k:Int):α:=TM jK k_ (Nc jK k_ N N) a k
def rJ (k:Int):List DC:=[.int k]
def rX (a:Rows) (k:Int):Int×Rows:=(k+1*a.length,vM rJ 1 a.length k)
theorem nql (k_:Int→Rows→α) (a:Rows) (k:Int) (qj:Gk (.sl [.i]) (.sl a)) (aF:PO 1 a k=true):∃N,ndb jK k_ N a k=k_ (rX a k).1 (rX a k).2:=by
 obtain⟨hl,hw⟩:=oy qj
 obtain⟨h1,h2,h3⟩:=WK aF
 refine⟨a.length+1, ?_⟩
 unfold ndb TM rX
 refine ngZ a k 1 rJ (Nc jK k_ (a.length+1)) k_ ?_ ?_
 ·intro n i b h hb hn
  rw[Wg]
  have w1:nK (k+1*(i:Int)+1)=k+1*(i:Int)+1:=nF (by omega) (by omega)
  have hs:bF (nth a i) 0 (rJ (k+1*(i:Int)))=rJ (k+1*(i:Int)):=tl (by rw[Pj (hw (nth a i) (uB h))];rfl)
  simp only[Nd,oV (show i<b.length by omega),nT (show i<b.length by omega),vL (show i<b.length by omega),n_ h hl,Int.toNat_natCast,nc,nn,cond_true,hn,w1]
  rw[←hs];rfl
 ·intro n b hb
  rw[Wg]
  simp only[Nd,←hb,nQ,cond_false]
def Nb (k_:Int→α) (a:Rows) (ov:Int→Int→α) (rv i:Int):α:=
 bif decide (i<len a) then
  bif DF true (idx i a) then
   bif (rI (nth a (Int.toNat i)) 0) != rv then k_ (-1)
   else ov (nK (rv+1)) (nK (i+1))
  else jK
 else k_ rv
def Na (k_:Int→α) (N:Nat) (a:Rows) (m_:Nat):Int→Int→α:=
 Nat.rec (motive:=fun _=>Int→Int→α) (fun _ _=>jK) (fun _ ov=>Nb jK k_ a ov) m_
theorem V5 (k_:Int→α) (N:Nat) (a:Rows) (m_:Nat):Na jK k_ N a (m_+1)=Nb jK k_ a (Na jK k_ N a m_):=rfl
def TL {α:Type} (jK:α) (k_:Int→α) (l0:Int→Int→α) (a:Rows) (k:Int):α:=
 l0 k 0
def nc7 (k_:Int→α) (N:Nat) (a:Rows) (k:Int):α:=TL jK k_ (Na jK k_ N a N) a k
def rq (a:Rows) (k:Int):Int:=k+1*a.length
theorem nqe (k_:Int→α) (a:Rows) (k:Int) (qj:Gk (.sl [.i]) (.sl a)) (aF:Ry rJ 1 a k=true):∃N,nc7 jK k_ N a k=k_ (rq a k):=by
 obtain⟨hl,hw⟩:=oy qj
 obtain⟨h0,h1,h2,h3⟩:=nvZ aF
 refine⟨a.length+1, ?_⟩
 unfold nc7 TL rq
 refine ngW a k 1 rJ (Na jK k_ (a.length+1) a) k_ h0 ?_ ?_
 ·intro n i h hn
  rw[V5]
  have w1:nK (k+1*(i:Int)+1)=k+1*(i:Int)+1:=nF (by omega) (by omega)
  simp only[Nb,oV h,nT h,n_ h hl,Int.toNat_natCast,nc,nn,cond_true,hn,w1,nyL,bne_self_eq_false,rJ,cond_false]
 ·intro n
  rw[V5]
  simp only[Nb,nQ,cond_false]
def yW (k_:Int→Rows→α) (ov:Int→Int→Rows→α) (rv i:Int) (ND:Rows):α:=
 bif decide (i<len ND) then
  bif DF (DF true (idx i ND)) (inl (Int.toNat i) ND) then
   ov (nK (rv+1)) (nK (i+1)) (List.set ND (Int.toNat i) (bF (nth ND (Int.toNat i)) 0 [.bool ((Int.tmod rv 3)==0)]))
  else jK
 else k_ rv ND
def yV (k_:Int→Rows→α) (N m_:Nat):Int→Int→Rows→α:=
 Nat.rec (motive:=fun _=>Int→Int→Rows→α) (fun _ _ _=>jK) (fun _ ov=>yW jK k_ ov) m_
theorem UE (k_:Int→Rows→α) (N m_:Nat):yV jK k_ N (m_+1)=yW jK k_ (yV jK k_ N m_):=rfl
def R4 {α:Type} (jK:α) (k_:Int→Rows→α) (l0:Int→Int→Rows→α) (a:Rows) (k:Int):α:=
 l0 k 0 a
def nad (k_:Int→Rows→α) (N:Nat) (a:Rows) (k:Int):α:=R4 jK k_ (yV jK k_ N N) a k
def PZ (k:Int):List DC:=[.bool (Int.tmod k 3==0)]
def Si (a:Rows) (k:Int):Int×Rows:=(k+1*a.length,vM PZ 1 a.length k)
theorem nno (k_:Int→Rows→α) (a:Rows) (k:Int) (qj:Gk (.sl [.bool]) (.sl a)) (aF:PO 1 a k=true):∃N,nad jK k_ N a k=k_ (Si a k).1 (Si a k).2:=by
 obtain⟨hl,hw⟩:=oy qj
 obtain⟨h1,h2,h3⟩:=WK aF
 refine⟨a.length+1, ?_⟩
 unfold nad R4 Si
 refine ngZ a k 1 PZ (yV jK k_ (a.length+1)) k_ ?_ ?_
 ·intro n i b h hb hn
  rw[UE]
  have w1:nK (k+1*(i:Int)+1)=k+1*(i:Int)+1:=nF (by omega) (by omega)
  have hs:bF (nth a i) 0 (PZ (k+1*(i:Int)))=PZ (k+1*(i:Int)):=tl (by rw[Pj (hw (nth a i) (uB h))];rfl)
  simp only[yW,oV (show i<b.length by omega),nT (show i<b.length by omega),vL (show i<b.length by omega),n_ h hl,Int.toNat_natCast,nc,nn,cond_true,hn,w1]
  rw[←hs];rfl
 ·intro n b hb
  rw[UE]
  simp only[yW,←hb,nQ,cond_false]
def yQ (k_:Int→α) (a:Rows) (ov:Int→Int→α) (rv i:Int):α:=
 bif decide (i<len a) then
  bif DF true (idx i a) then
   bif !((rB (nth a (Int.toNat i)) 0)==((Int.tmod rv 3)==0)) then k_ (-1)
   else ov (nK (rv+1)) (nK (i+1))
  else jK
 else k_ rv
def yP (k_:Int→α) (N:Nat) (a:Rows) (m_:Nat):Int→Int→α:=
 Nat.rec (motive:=fun _=>Int→Int→α) (fun _ _=>jK) (fun _ ov=>yQ jK k_ a ov) m_
theorem Uv (k_:Int→α) (N:Nat) (a:Rows) (m_:Nat):yP jK k_ N a (m_+1)=yQ jK k_ a (yP jK k_ N a m_):=rfl
def RW {α:Type} (jK:α) (k_:Int→α) (l0:Int→Int→α) (a:Rows) (k:Int):α:=
 l0 k 0
def ZZ (k_:Int→α) (N:Nat) (a:Rows) (k:Int):α:=RW jK k_ (yP jK k_ N a N) a k
def U7 (a:Rows) (k:Int):Int:=k+1*a.length
theorem nnb (k_:Int→α) (a:Rows) (k:Int) (qj:Gk (.sl [.bool]) (.sl a)) (aF:Ry PZ 1 a k=true):∃N,ZZ jK k_ N a k=k_ (U7 a k):=by
 obtain⟨hl,hw⟩:=oy qj
 obtain⟨h0,h1,h2,h3⟩:=nvZ aF
 refine⟨a.length+1, ?_⟩
 unfold ZZ RW U7
 refine ngW a k 1 PZ (yP jK k_ (a.length+1) a) k_ h0 ?_ ?_
 ·intro n i h hn
  rw[Uv]
  have w1:nK (k+1*(i:Int)+1)=k+1*(i:Int)+1:=nF (by omega) (by omega)
  simp only[yQ,oV h,nT h,n_ h hl,Int.toNat_natCast,nc,nn,cond_true,hn,w1,nzW,beq_self_eq_true,Bool.not_true,PZ,cond_false]
 ·intro n
  rw[Uv]
  simp only[yQ,nQ,cond_false]
def xm (k_:Bytes→α) (ov:Int→Bytes→α) (rv:Int) (nD:Bytes):α:=
 bif decide (0<rv) then
  bif DF true (oK (toStr ([[.int (IntKind.wrap .u8 (nK (48+(Int.tmod rv 10))))]])) nD) then
   ov (nK (Int.tdiv rv 10)) ((toStr ([[.int (IntKind.wrap .u8 (nK (48+(Int.tmod rv 10))))]]))++nD)
  else jK
 else bif DF true (oK [109] nD) then
   k_ ([109]++nD)
  else jK
def Nf (k_:Bytes→α) (N m_:Nat):Int→Bytes→α:=
 Nat.rec (motive:=fun _=>Int→Bytes→α) (fun _ _=>jK) (fun _ ov=>xm jK k_ ov) m_
theorem Wp (k_:Bytes→α) (N m_:Nat):Nf jK k_ N (m_+1)=xm jK k_ (Nf jK k_ N m_):=rfl
def TN {α:Type} (jK:α) (k_:Bytes→α) (l0:Int→Bytes→α) (k:Int):α:=
 bif decide (k≤0) then k_ [109,48]
 else l0 k []
def ndf (k_:Bytes→α) (N:Nat) (k:Int):α:=TN jK k_ (Nf jK k_ N N) k
def mtD (k:Int):Bytes:=toStr ([[.int (IntKind.wrap .u8 (nK (48+(Int.tmod k 10))))]])
def mtl:Nat→Int→Bytes→Bytes
 | 0,_,o=>o
 | n+1,k,o=>bif decide (0<k) then mtl n (nK (Int.tdiv k 10)) (mtD k++o) else o
def S_ (k:Int):Bytes:=bif decide (k≤0) then [109,48] else [109]++mtl 25 k []
theorem nqq (k_:Bytes→α) (k:Int) (h_k:Gk .i (.int k)):∃N,ndf jK k_ N k=k_ (S_ k):=by
 have h63:=ye h_k
 refine⟨26, ?_⟩
 have key:∀(n:Nat) (k:Int) (o:Bytes),0≤k→k≤9223372036854775807→k<10 ^ n→o.length+n≤100→
   Nf jK k_ 26 (n+1) k o=k_ ([109]++mtl n k o):=by
  intro n
  induction n with
  | zero=>
   intro k o h0 h1 h2 h3
   have:k=0:=by simp only[Int.pow_zero] at h2;omega
   subst this
   rw[Wp]
   have c1:oK [109] o=true:=by simp only[oK,List.length_cons,List.length_nil,decide_eq_true_eq];omega
   simp only[xm,c1,nc,cond_true,mtl]
   rfl
  | succ n ih=>
   intro k o h0 h1 h2 h3
   rw[Wp]
   have c1:oK [109] o=true:=by simp only[oK,List.length_cons,List.length_nil,decide_eq_true_eq];omega
   by_cases hk:0<k
   ·have l1:(mtD k).length=1:=rfl
    have c2:oK (mtD k) o=true:=by simp only[oK,l1,decide_eq_true_eq];omega
    have e1:Int.tdiv k 10=k / 10:=Int.tdiv_eq_ediv_of_nonneg h0
    have e2:nK (Int.tdiv k 10)=k / 10:=by rw[e1];exact nF (by omega) (by omega)
    have:=ih (k / 10) (mtD k++o) (by omega) (by omega) (by rw[Int.pow_succ] at h2;omega) (by rw[List.length_append,l1];omega)
    have hd:decide (0<k)=true:=decide_eq_true hk
    unfold xm mtl
    rw[hd,e2]
    show (bif DF true (oK (mtD k) o) then _ else jK)=_
    rw[c2]
    exact this
   ·have hd:decide (0<k)=false:=decide_eq_false hk
    simp only[xm,hd,c1,nc,cond_true,cond_false,mtl]
 unfold ndf TN S_
 by_cases h:k≤0
 ·simp only[decide_eq_true h,cond_true]
 ·simp only[decide_eq_false h,cond_false]
  exact key 25 k [] (by omega) (by omega) (by omega) (by simp)
def xc (k_:Int→Rows→α) (ov:Int→Int→Rows→α) (rv i:Int) (ND:Rows):α:=
 bif decide (i<len ND) then
  bif DF (DF true (idx i ND)) (inl (Int.toNat i) ND) then
   ov (nK (rv+1)) (nK (i+1)) (List.set ND (Int.toNat i) (bF (nth ND (Int.toNat i)) 0 [.str (S_ rv)]))
  else jK
 else k_ rv ND
def xb (k_:Int→Rows→α) (N m_:Nat):Int→Int→Rows→α:=
 Nat.rec (motive:=fun _=>Int→Int→Rows→α) (fun _ _ _=>jK) (fun _ ov=>xc jK k_ ov) m_
theorem RB (k_:Int→Rows→α) (N m_:Nat):xb jK k_ N (m_+1)=xc jK k_ (xb jK k_ N m_):=rfl
def Pv {α:Type} (jK:α) (k_:Int→Rows→α) (l0:Int→Int→Rows→α) (a:Rows) (k:Int):α:=
 l0 k 0 a
def Wn (k_:Int→Rows→α) (N:Nat) (a:Rows) (k:Int):α:=Pv jK k_ (xb jK k_ N N) a k
def sG (k:Int):List DC:=[.str (S_ k)]
def uZ (a:Rows) (k:Int):Int×Rows:=(k+1*a.length,vM sG 1 a.length k)
theorem njB (k_:Int→Rows→α) (a:Rows) (k:Int) (qj:Gk (.sl [.str]) (.sl a)) (aF:PO 1 a k=true):∃N,Wn jK k_ N a k=k_ (uZ a k).1 (uZ a k).2:=by
 obtain⟨hl,hw⟩:=oy qj
 obtain⟨h1,h2,h3⟩:=WK aF
 refine⟨a.length+1, ?_⟩
 unfold Wn Pv uZ
 refine ngZ a k 1 sG (xb jK k_ (a.length+1)) k_ ?_ ?_
 ·intro n i b h hb hn
  rw[RB]
  have w1:nK (k+1*(i:Int)+1)=k+1*(i:Int)+1:=nF (by omega) (by omega)
  have hs:bF (nth a i) 0 (sG (k+1*(i:Int)))=sG (k+1*(i:Int)):=tl (by rw[Pj (hw (nth a i) (uB h))];rfl)
  simp only[xc,oV (show i<b.length by omega),nT (show i<b.length by omega),vL (show i<b.length by omega),n_ h hl,Int.toNat_natCast,nc,nn,cond_true,hn,w1]
  rw[←hs];rfl
 ·intro n b hb
  rw[RB]
  simp only[xc,←hb,nQ,cond_false]
def xa (k_:Int→α) (a:Rows) (ov:Int→Int→α) (rv i:Int):α:=
 bif decide (i<len a) then
  bif DF true (idx i a) then
   bif !((rS (nth a (Int.toNat i)) 0)==(S_ rv)) then k_ (-1)
   else ov (nK (rv+1)) (nK (i+1))
  else jK
 else k_ rv
def w_ (k_:Int→α) (N:Nat) (a:Rows) (m_:Nat):Int→Int→α:=
 Nat.rec (motive:=fun _=>Int→Int→α) (fun _ _=>jK) (fun _ ov=>xa jK k_ a ov) m_
theorem RA (k_:Int→α) (N:Nat) (a:Rows) (m_:Nat):w_ jK k_ N a (m_+1)=xa jK k_ a (w_ jK k_ N a m_):=rfl
def Ps {α:Type} (jK:α) (k_:Int→α) (l0:Int→Int→α) (a:Rows) (k:Int):α:=
 l0 k 0
def Wb (k_:Int→α) (N:Nat) (a:Rows) (k:Int):α:=Ps jK k_ (w_ jK k_ N a N) a k
def uW (a:Rows) (k:Int):Int:=k+1*a.length
theorem njs (k_:Int→α) (a:Rows) (k:Int) (qj:Gk (.sl [.str]) (.sl a)) (aF:Ry sG 1 a k=true):∃N,Wb jK k_ N a k=k_ (uW a k):=by
 obtain⟨hl,hw⟩:=oy qj
 obtain⟨h0,h1,h2,h3⟩:=nvZ aF
 refine⟨a.length+1, ?_⟩
 unfold Wb Ps uW
 refine ngW a k 1 sG (w_ jK k_ (a.length+1) a) k_ h0 ?_ ?_
 ·intro n i h hn
  rw[RA]
  have w1:nK (k+1*(i:Int)+1)=k+1*(i:Int)+1:=nF (by omega) (by omega)
  simp only[xa,oV h,nT h,n_ h hl,Int.toNat_natCast,nc,nn,cond_true,hn,w1,nob,beq_self_eq_true,Bool.not_true,sG,cond_false]
 ·intro n
  rw[RA]
  simp only[xa,nQ,cond_false]
inductive FK where
 | i
 | b
 | s
def FK.v:FK→Int→DC
 | .i,k=> .int k
 | .b,k=> .bool (Int.tmod k 3==0)
 | .s,k=> .str (S_ k)
def FK.ne:FK→List DC→Nat→Int→Bool
 | .i,r,w,k=>rI r w != k
 | .b,r,w,k=> !(rB r w==(Int.tmod k 3==0))
 | .s,r,w,k=> !(rS r w==S_ k)
def fkF (ks:List FK):Int→List DC:=
 List.rec (motive:=fun _=>Int→List DC) (fun _=>[]) (fun f _ ih k=>f.v k::ih (k+1)) ks
theorem nyc (p:List DC) (x y:DC) (r:List DC) {w:Nat} (h:p.length=w):bF (p++x::r) w [y]=p++y::r:=by
 subst h
 simp [bF]
theorem nvX (p:List DC) (x d:DC) (r:List DC) {w:Nat} (h:p.length=w):(p++x::r).getD w d=x:=by
 subst h
 simp
theorem nw3 {A:Rows} {i:Nat} (hi:i<A.length):A.set i (nth A i)=A:=by
 have e:nth A i=A[i]:=by simp [nth,hi]
 rw[e,List.set_getElem_self]
def mkG (i:Int) (fin:Int→Rows→α) (ks:List FK):Nat→Int→Rows→α:=
 List.rec (motive:=fun _=>Nat→Int→Rows→α) (fun _ k A=>fin k A) (fun f _ ih w k A=>bif DF (DF true (idx i A)) (inl (Int.toNat i) A) then ih (w+1) (nK (k+1)) (List.set A (Int.toNat i) (bF (nth A (Int.toNat i)) w [f.v k])) else jK) ks
theorem ny7 (i:Nat) (fin:Int→Rows→α):∀(ks:List FK) (w:Nat) (K:Int) (A:Rows) (p r:List DC),i<A.length→nth A i=p++r→p.length=w→r.length=ks.length→0≤K→K+ks.length≤9223372036854775807→
  mkG jK (i:Int) fin ks w K A=fin (K+ks.length) (A.set i (p++fkF ks K)):=by
 intro ks
 induction ks with
 | nil=>
  intro w K A p r hi hn hp hr h0 h1
  have hr:r=[]:=List.length_eq_zero_iff.1 hr
  subst hr
  show fin K A=fin (K+((0:Nat):Int)) (A.set i (p++[]))
  rw[←hn,nw3 hi]
  simp
 | cons f fs ih=>
  intro w K A p r hi hn hp hr h0 h1
  cases r with
  | nil=>cases hr
  | cons x r=>
   have hf:((f::fs).length:Int)=(fs.length:Int)+1:=by simp
   rw[hf] at h1 ⊢
   show (bif DF (DF true (idx (i:Int) A)) (inl (Int.toNat (i:Int)) A) then mkG jK (i:Int) fin fs (w+1) (nK (K+1)) (List.set A (Int.toNat (i:Int)) (bF (nth A (Int.toNat (i:Int))) w [f.v K])) else jK)=_
   simp only[Int.toNat_natCast,nT hi,vL hi,nc,cond_true]
   rw[show nK (K+1)=K+1 from nF (by omega) (by omega),hn,nyc p x (f.v K) r hp]
   refine (ih (w+1) (K+1) _ (p++[f.v K]) r (by rw[List.length_set];exact hi) (by rw[ntm hi,List.append_assoc];rfl) (by simp [hp]) (by simpa using hr) (by omega) (by omega)).trans ?_
   rw[List.set_set,show K+1+(fs.length:Int)=K+((fs.length:Int)+1) by omega,List.append_assoc]
   rfl
def mkL (ks:List FK) {α:Type} (jK:α) (k_:Int→Rows→α) (ov:Int→Int→Rows→α) (k i:Int) (a:Rows):α:=
 bif decide (i<len a) then mkG jK i (fun k A=>ov k (nK (i+1)) A) ks 0 k a else k_ k a
def nvg (ks:List FK) {α:Type} (jK:α) (k_:Int→Rows→α) (N m_:Nat):Int→Int→Rows→α:=
 Nat.rec (motive:=fun _=>Int→Int→Rows→α) (fun _ _ _=>jK) (fun _ ov=>mkL ks jK k_ ov) m_
def mkT {α:Type} (jK:α) (k_:Int→Rows→α) (l0:Int→Int→Rows→α) (a:Rows) (k:Int):α:=l0 k 0 a
def nn8 (ks:List FK) {α:Type} (jK:α) (k_:Int→Rows→α) (N:Nat) (a:Rows) (k:Int):α:=mkT jK k_ (nvg ks jK k_ N N) a k
theorem ntl {c:Int} (h0:0≤c) (h1:c≤1000) {i:Nat} (hi:i≤16777216):0≤c*(i:Int)∧c*(i:Int)≤16777216000:=by
 refine⟨Int.mul_nonneg h0 (by omega), ?_⟩
 have:=Int.mul_le_mul h1 (show (i:Int)≤16777216 by omega) (by omega) (by omega)
 omega
theorem nx9 {α:Type} (ks:List FK) (c:Int) (hc:(ks.length:Int)=c) (IX:c≤1000) (jK:α) (k_:Int→Rows→α) (a:Rows) (k:Int) (hl:a.length≤9223372036854775807) (hr:∀r∈a,r.length=ks.length) (aF:PO c a k=true):
  ∃N,nn8 ks jK k_ N a k=k_ (k+c*a.length) (vM (fkF ks) c a.length k):=by
 obtain⟨h1,h2,h3⟩:=WK aF
 refine⟨a.length+1, ?_⟩
 refine ngZ a k c (fkF ks) (nvg ks jK k_ (a.length+1)) k_ ?_ ?_
 ·intro n i b h hb hn
  show mkL ks jK k_ (nvg ks jK k_ (a.length+1) n) (k+c*i) (i:Int) b=_
  have BH:i<b.length:=by omega
  have hw:=hr _ (uB h)
  have hm:=ntl (c:=c) (by omega) IX (show i≤16777216 by omega)
  unfold mkL
  rw[oV BH,cond_true]
  refine (ny7 jK i _ ks 0 (k+c*i) b [] (nth a i) BH hn rfl hw (by omega) (by omega)).trans ?_
  rw[n_ h hl,hc]
  rfl
 ·intro n b hb
  show mkL ks jK k_ (nvg ks jK k_ (a.length+1) n) (k+c*a.length) (a.length:Int) b=_
  unfold mkL
  rw[←hb,nQ,cond_false]
def hlG {α:Type} (jK no:α) (a:Rows) (i:Int) (fin:Int→α) (ks:List FK):Nat→Int→α:=
 List.rec (motive:=fun _=>Nat→Int→α) (fun _ k=>fin k) (fun f _ ih w k=>bif DF true (idx i a) then bif f.ne (nth a (Int.toNat i)) w k then no else ih (w+1) (nK (k+1)) else jK) ks
theorem ny5 {α:Type} (jK no:α) (a:Rows) (i:Nat) (hi:i<a.length) (fin:Int→α):∀(ks:List FK) (w:Nat) (K:Int) (p:List DC),nth a i=p++fkF ks K→p.length=w→0≤K→K+ks.length≤9223372036854775807→
  hlG jK no a (i:Int) fin ks w K=fin (K+ks.length):=by
 intro ks
 induction ks with
 | nil=>
  intro w K p hn hp h0 h1
  show fin K=fin (K+((0:Nat):Int))
  simp
 | cons f fs ih=>
  intro w K p hn hp h0 h1
  have hf:((f::fs).length:Int)=(fs.length:Int)+1:=by simp
  rw[hf] at h1 ⊢
  have hn:nth a i=p++f.v K::fkF fs (K+1):=hn
  show (bif DF true (idx (i:Int) a) then bif f.ne (nth a (Int.toNat (i:Int))) w K then no else hlG jK no a (i:Int) fin fs (w+1) (nK (K+1)) else jK)=_
  have he:f.ne (nth a i) w K=false:=by
   rw[hn]
   cases f
   ·simp only[FK.ne,rI,nvX p _ _ _ hp,FK.v,DC.asInt,bne_self_eq_false]
   ·simp only[FK.ne,rB,nvX p _ _ _ hp,FK.v,DC.asBool,beq_self_eq_true,Bool.not_true]
   ·simp only[FK.ne,rS,nvX p _ _ _ hp,FK.v,DC.FO,beq_self_eq_true,Bool.not_true]
  simp only[Int.toNat_natCast,nT hi,nc,cond_true,cond_false,he]
  rw[show nK (K+1)=K+1 from nF (by omega) (by omega)]
  refine (ih (w+1) (K+1) (p++[f.v K]) (by rw[hn,List.append_assoc];rfl) (by simp [hp]) (by omega) (by omega)).trans ?_
  rw[show K+1+(fs.length:Int)=K+((fs.length:Int)+1) by omega]
def hlL (ks:List FK) {α:Type} (jK:α) (k_:Int→α) (a:Rows) (ov:Int→Int→α) (k i:Int):α:=
 bif decide (i<len a) then hlG jK (k_ (-1)) a i (fun k=>ov k (nK (i+1))) ks 0 k else k_ k
def nul (ks:List FK) {α:Type} (jK:α) (k_:Int→α) (N:Nat) (a:Rows) (m_:Nat):Int→Int→α:=
 Nat.rec (motive:=fun _=>Int→Int→α) (fun _ _=>jK) (fun _ ov=>hlL ks jK k_ a ov) m_
def hlT {α:Type} (jK:α) (k_:Int→α) (l0:Int→Int→α) (a:Rows) (k:Int):α:=l0 k 0
def nmC (ks:List FK) {α:Type} (jK:α) (k_:Int→α) (N:Nat) (a:Rows) (k:Int):α:=hlT jK k_ (nul ks jK k_ N a N) a k
theorem nx5 {α:Type} (ks:List FK) (c:Int) (hc:(ks.length:Int)=c) (IX:c≤1000) (jK:α) (k_:Int→α) (a:Rows) (k:Int) (hl:a.length≤9223372036854775807) (aF:Ry (fkF ks) c a k=true):
  ∃N,nmC ks jK k_ N a k=k_ (k+c*a.length):=by
 obtain⟨h0,h1,h2,h3⟩:=nvZ aF
 refine⟨a.length+1, ?_⟩
 refine ngW a k c (fkF ks) (nul ks jK k_ (a.length+1) a) k_ h0 ?_ ?_
 ·intro n i h hn
  show hlL ks jK k_ a (nul ks jK k_ (a.length+1) a n) (k+c*i) (i:Int)=_
  have hm:=ntl (c:=c) (by omega) IX (show i≤16777216 by omega)
  unfold hlL
  rw[oV h,cond_true]
  refine (ny5 jK _ a i h _ ks 0 (k+c*i) [] hn rfl (by omega) (by omega)).trans ?_
  rw[n_ h hl,hc]
 ·intro n
  show hlL ks jK k_ a (nul ks jK k_ (a.length+1) a n) (k+c*a.length) (a.length:Int)=_
  unfold hlL
  rw[nQ,cond_false]
def y3 (k_:Int→Rows→α) (ov:Int→Int→Rows→α) (rv i:Int) (ND:Rows):α:=
 let z0:Rows:=List.set ND (Int.toNat i) (bF (nth ND (Int.toNat i)) 0 [.int rv])
 let z1:Rows:=List.set z0 (Int.toNat i) (bF (nth z0 (Int.toNat i)) 1 [.int (nK (rv+1))])
 let z2:List DC:=nth z1 (Int.toNat i)
 let z3:Rows:=rR z2 2
 let z4:Int:=nK ((nK (rv+1))+1)
 let z5:Int×Rows:=rX z3 z4
 bif decide (i<len ND) then
  bif DF (DF true (idx i ND)) (inl (Int.toNat i) ND) then
   bif DF (DF true (idx i z0)) (inl (Int.toNat i) z0) then
    bif DF (DF (DF true (idx i z1)) (inl (Int.toNat i) z1)) (PO 1 z3 z4) then
     ov z5.1 (nK (i+1)) (List.set z1 (Int.toNat i) (bF z2 2 [.sl z5.2]))
    else jK
   else jK
  else jK
 else k_ rv ND
def yZ (k_:Int→Rows→α) (N m_:Nat):Int→Int→Rows→α:=
 Nat.rec (motive:=fun _=>Int→Int→Rows→α) (fun _ _ _=>jK) (fun _ ov=>y3 jK k_ ov) m_
theorem UL (k_:Int→Rows→α) (N m_:Nat):yZ jK k_ N (m_+1)=y3 jK k_ (yZ jK k_ N m_):=rfl
def R9 {α:Type} (jK:α) (k_:Int→Rows→α) (l0:Int→Int→Rows→α) (a:Rows) (k:Int):α:=
 l0 k 0 a
def nao (k_:Int→Rows→α) (N:Nat) (a:Rows) (k:Int):α:=R9 jK k_ (yZ jK k_ N N) a k
def sk (r:List DC) (k:Int):List DC×Int:=([.int (k),.int (k+1),.sl (vM rJ 1 (rR r 2).length (k+1+1))],k+1+1+1*(rR r 2).length)
def Ts (r:List DC) (k:Int):Bool:=PO 1 (rR r 2) (k+1+1)
def Nn (a:Rows) (k:Int):Int×Rows:=((Ta sk a k).2,(Ta sk a k).1)
theorem nnw (k_:Int→Rows→α) (a:Rows) (k:Int) (qj:Gk (.sl [.i,.i,.sl [.i]]) (.sl a)) (aF:y9 sk Ts a k=true):∃N,nao jK k_ N a k=k_ (Nn a k).1 (Nn a k).2:=by
 obtain⟨hl,hw⟩:=oy qj
 refine⟨a.length+1, ?_⟩
 unfold nao R9 Nn
 refine nwX a k sk Ts (yZ jK k_ (a.length+1)) k_ aF ?_ ?_
 ·intro n i k b h hb hn hg
  rw[UL]
  have hr:=Pj (hw (nth a i) (uB h))
  have hk: -1*3≤k:=by have:=(WK hg).2.1;omega
  rw[←hn] at hg hr ⊢
  have BH:i<b.length:=by omega
  generalize LM:nth b i=r at*
  match r,hr with
  | [a0,a1,a2],_=>
   have Hm:PO 1 (DC.cX a2) (k+1+1)=true:=hg
   obtain⟨g1,g2,g3⟩:=WK Hm
   have rr:∀x0 x1 x2:DC,rR [x0,x1,x2] 2=DC.cX x2:=fun _ _ _=>rfl
   have s0:∀x0 x1 x2 v:DC,bF [x0,x1,x2] 0 [v]=[v,x1,x2]:=fun _ _ _ _=>rfl
   have s1:∀x0 x1 x2 v:DC,bF [x0,x1,x2] 1 [v]=[x0,v,x2]:=fun _ _ _ _=>rfl
   have s2:∀x0 x1 x2 v:DC,bF [x0,x1,x2] 2 [v]=[x0,x1,v]:=fun _ _ _ _=>rfl
   have w0:nK (k+1)=k+1:=nF (by omega) (by omega)
   have w1:nK (k+1+1)=k+1+1:=nF (by omega) (by omega)
   simp only[y3,oV BH,nT BH,vL BH,n_ h hl,Int.toNat_natCast,nc,nn,cond_true,LM,w0,w1,nwP,nwV,List.set_set,ntm BH,s0,s1,s2,rr,rX,Hm,sk]
 ·intro n k b hb
  rw[UL]
  simp only[y3,←hb,nQ,cond_false]
def uf (a:Rows):Bool:=sm a && a.all (fun r=>sm (rR r 2))
theorem nq0 {a:Rows} (h:uf a=true) {k:Int} (h0:0≤k) (h1:k≤600000000000000):y9 sk Ts a k=true∧k≤(Nn a k).1∧(Nn a k).1≤k+281475110928384:=by
 simp only[uf,Bool.and_eq_true,List.all_eq_true] at h
 have hl:=t_ h.1
 obtain⟨h2,h3,h4⟩:=nn9 (f:=sk) (g:=Ts) (B:=1125899906842000) (C:=16777224) (by omega) a k (fun r hr k k0 k1=>by
  have hs:=t_ (h.2 r hr)
  refine⟨zw (h.2 r hr) (by omega) (by omega), ?_, ?_⟩
  ·show k≤k+1+1+1*((rR r 2).length:Int)
   omega
  ·show k+1+1+1*((rR r 2).length:Int)≤k+16777224
   omega) h0 (by omega)
 exact⟨h2,h3,by show (Ta sk a k).2≤_;omega⟩
def yU (k_:Int→α) (a:Rows) (ov:Int→Int→α) (rv i:Int):α:=
 let z0:Int:=nK ((nK (rv+1))+1)
 let z1:Int:=rq (rR (nth a (Int.toNat i)) 2) z0
 bif decide (i<len a) then
  bif DF true (idx i a) then
   bif (rI (nth a (Int.toNat i)) 0) != rv then k_ (-1)
   else bif DF true (idx i a) then
     bif (rI (nth a (Int.toNat i)) 1) != (nK (rv+1)) then k_ (-1)
     else bif DF (DF true (idx i a)) (Ry rJ 1 (rR (nth a (Int.toNat i)) 2) z0) then
       bif decide (z1<0) then k_ (-1)
       else ov z1 (nK (i+1))
      else jK
    else jK
  else jK
 else k_ rv
def yT (k_:Int→α) (N:Nat) (a:Rows) (m_:Nat):Int→Int→α:=
 Nat.rec (motive:=fun _=>Int→Int→α) (fun _ _=>jK) (fun _ ov=>yU jK k_ a ov) m_
theorem UC (k_:Int→α) (N:Nat) (a:Rows) (m_:Nat):yT jK k_ N a (m_+1)=yU jK k_ a (yT jK k_ N a m_):=rfl
def R1 {α:Type} (jK:α) (k_:Int→α) (l0:Int→Int→α) (a:Rows) (k:Int):α:=
 l0 k 0
def Z9 (k_:Int→α) (N:Nat) (a:Rows) (k:Int):α:=R1 jK k_ (yT jK k_ N a N) a k
def ngY (a:Rows) (k:Int):Bool:=same a (Ta sk a k).1 && y9 sk Ts a k
def Zj (a:Rows) (k:Int):Int:=(Ta sk a k).2
theorem nnj (k_:Int→α) (a:Rows) (k:Int) (qj:Gk (.sl [.i,.i,.sl [.i]]) (.sl a)) (aF:ngY a k=true):∃N,Z9 jK k_ N a k=k_ (Zj a k):=by
 obtain⟨hl,hw⟩:=oy qj
 simp only[ngY,Bool.and_eq_true] at aF
 refine⟨a.length+1, ?_⟩
 unfold Z9 R1 Zj
 refine nwN a k sk Ts (yT jK k_ (a.length+1) a) k_ aF.2 (rG aF.1) ?_ ?_
 ·intro n i k h hn hg
  rw[UC]
  have Hm:PO 1 (rR (nth a i) 2) (k+1+1)=true:=hg
  obtain⟨g1,g2,g3⟩:=WK Hm
  have e:rR (nth a i) 2=vM rJ 1 (rR (nth a i) 2).length (k+1+1):=congrArg (fun r=>rR r 2) hn
  have hh:Ry rJ 1 (rR (nth a i) 2) (k+1+1)=true:=by
   simp only[Ry,Bool.and_eq_true]
   exact⟨by rw[←e];exact pP _,Hm⟩
  have r0:rI (nth a i) 0=k:=congrArg (fun r=>rI r 0) hn
  have r1:rI (nth a i) 1=k+1:=congrArg (fun r=>rI r 1) hn
  have w0:nK (k+1)=k+1:=nF (by omega) (by omega)
  have w1:nK (k+1+1)=k+1+1:=nF (by omega) (by omega)
  have hz:¬k+1+1+1*((rR (nth a i) 2).length:Int)<0:=by omega
  simp only[yU,oV h,nT h,n_ h hl,Int.toNat_natCast,nc,nn,cond_true,hh,rq,hz,w0,w1,r0,r1,bne_self_eq_false,beq_self_eq_true,Bool.not_true,decide_false,cond_false,sk]
 ·intro n k
  rw[UC]
  simp only[yU,nQ,cond_false]
theorem nyJ {a:Rows} (h:uf a=true) {k:Int} (h0:0≤k) (h1:k≤600000000000000):y9 sk Ts a k=true∧ngY (Ta sk a k).1 k=true∧(Ta sk (Ta sk a k).1 k).2=(Ta sk a k).2∧k≤(Ta sk a k).2∧(Ta sk a k).2≤k+281475110928384:=by
 obtain⟨h2,h3,h4⟩:=nq0 h h0 h1
 have hl:∀r k,(rR (sk r k).1 2).length=(rR r 2).length:=fun r k=>qg rJ 1 _ _
 have hf:∀r k,sk (sk r k).1 k=sk r k:=by
  intro r k
  have e:=hl r k
  unfold sk at e ⊢
  simp only[e]
 have hg:∀r k,Ts (sk r k).1 k=Ts r k:=by
  intro r k
  simp only[Ts,PO,sm,hl]
 obtain⟨t1,t2⟩:=nn_ hf hg a k
 refine⟨h2, ?_,by rw[t1],h3,h4⟩
 simp only[ngY,t1,t2,h2,pP,Bool.and_self]
def WM:List FK:=[.i,.i,.i,.i,.b,.b]
def Qa:Int→List DC:=fkF WM
def PN (a:Rows) (k:Int):Int×Rows:=(k+6*a.length,vM Qa 6 a.length k)
theorem njH (k_:Int→Rows→α) (a:Rows) (k:Int) (qj:Gk (.sl [.i,.i,.i,.i,.bool,.bool]) (.sl a)) (aF:PO 6 a k=true):∃N,nn8 WM jK k_ N a k=k_ (PN a k).1 (PN a k).2:=by
 obtain⟨hl,hw⟩:=oy qj
 exact nx9 WM 6 (by rfl) (by decide) jK k_ a k hl (fun r hr=>Pj (hw r hr)) aF
def S1 (a:Rows) (k:Int):Int:=k+6*a.length
theorem njw (k_:Int→α) (a:Rows) (k:Int) (qj:Gk (.sl [.i,.i,.i,.i,.bool,.bool]) (.sl a)) (aF:Ry Qa 6 a k=true):∃N,nmC WM jK k_ N a k=k_ (S1 a k):=by
 exact nx5 WM 6 (by rfl) (by decide) jK k_ a k (oy qj).1 aF
def njS:List FK:=[.i,.i,.i,.i,.i,.i,.i,.i,.i]
def nbf:Int→List DC:=fkF njS
def PL (a:Rows) (k:Int):Int×Rows:=(k+9*a.length,vM nbf 9 a.length k)
theorem nnu (k_:Int→Rows→α) (a:Rows) (k:Int) (qj:Gk (.sl [.i,.i,.i,.i,.i,.i,.i,.i,.i]) (.sl a)) (aF:PO 9 a k=true):∃N,nn8 njS jK k_ N a k=k_ (PL a k).1 (PL a k).2:=by
 obtain⟨hl,hw⟩:=oy qj
 exact nx9 njS 9 (by rfl) (by decide) jK k_ a k hl (fun r hr=>Pj (hw r hr)) aF
def RM (a:Rows) (k:Int):Int:=k+9*a.length
theorem nnh (k_:Int→α) (a:Rows) (k:Int) (qj:Gk (.sl [.i,.i,.i,.i,.i,.i,.i,.i,.i]) (.sl a)) (aF:Ry nbf 9 a k=true):∃N,nmC njS jK k_ N a k=k_ (RM a k):=by
 exact nx5 njS 9 (by rfl) (by decide) jK k_ a k (oy qj).1 aF
def njT:List FK:=[.i,.i,.i,.i,.i,.i,.i]
def nbg:Int→List DC:=fkF njT
def Sj (a:Rows) (k:Int):Int×Rows:=(k+7*a.length,vM nbg 7 a.length k)
theorem nnz (k_:Int→Rows→α) (a:Rows) (k:Int) (qj:Gk (.sl [.i,.i,.i,.i,.i,.i,.i]) (.sl a)) (aF:PO 7 a k=true):∃N,nn8 njT jK k_ N a k=k_ (Sj a k).1 (Sj a k).2:=by
 obtain⟨hl,hw⟩:=oy qj
 exact nx9 njT 7 (by rfl) (by decide) jK k_ a k hl (fun r hr=>Pj (hw r hr)) aF
def U8 (a:Rows) (k:Int):Int:=k+7*a.length
theorem nnm (k_:Int→α) (a:Rows) (k:Int) (qj:Gk (.sl [.i,.i,.i,.i,.i,.i,.i]) (.sl a)) (aF:Ry nbg 7 a k=true):∃N,nmC njT jK k_ N a k=k_ (U8 a k):=by
 exact nx5 njT 7 (by rfl) (by decide) jK k_ a k (oy qj).1 aF
def Sk:List FK:=[.i,.i,.i,.b]
def zI:Int→List DC:=fkF Sk
def Nk (a:Rows) (k:Int):Int×Rows:=(k+4*a.length,vM zI 4 a.length k)
theorem nhs (k_:Int→Rows→α) (a:Rows) (k:Int) (qj:Gk (.sl [.i,.i,.i,.bool]) (.sl a)) (aF:PO 4 a k=true):∃N,nn8 Sk jK k_ N a k=k_ (Nk a k).1 (Nk a k).2:=by
 obtain⟨hl,hw⟩:=oy qj
 exact nx9 Sk 4 (by rfl) (by decide) jK k_ a k hl (fun r hr=>Pj (hw r hr)) aF
def Qg (a:Rows) (k:Int):Int:=k+4*a.length
theorem nhi (k_:Int→α) (a:Rows) (k:Int) (qj:Gk (.sl [.i,.i,.i,.bool]) (.sl a)) (aF:Ry zI 4 a k=true):∃N,nmC Sk jK k_ N a k=k_ (Qg a k):=by
 exact nx5 Sk 4 (by rfl) (by decide) jK k_ a k (oy qj).1 aF
def WL:List FK:=[.i,.i,.i,.i,.i,.i,.s,.b]
def P_:Int→List DC:=fkF WL
def PM (a:Rows) (k:Int):Int×Rows:=(k+8*a.length,vM P_ 8 a.length k)
theorem njy (k_:Int→Rows→α) (a:Rows) (k:Int) (qj:Gk (.sl [.i,.i,.i,.i,.i,.i,.str,.bool]) (.sl a)) (aF:PO 8 a k=true):∃N,nn8 WL jK k_ N a k=k_ (PM a k).1 (PM a k).2:=by
 obtain⟨hl,hw⟩:=oy qj
 exact nx9 WL 8 (by rfl) (by decide) jK k_ a k hl (fun r hr=>Pj (hw r hr)) aF
def SZ (a:Rows) (k:Int):Int:=k+8*a.length
theorem njp (k_:Int→α) (a:Rows) (k:Int) (qj:Gk (.sl [.i,.i,.i,.i,.i,.i,.str,.bool]) (.sl a)) (aF:Ry P_ 8 a k=true):∃N,nmC WL jK k_ N a k=k_ (SZ a k):=by
 exact nx5 WL 8 (by rfl) (by decide) jK k_ a k (oy qj).1 aF
def Sl:List FK:=[.i,.i,.i,.i,.i,.i,.i,.i,.i,.i,.i,.i,.i,.i,.i,.i,.i,.i,.i,.i,.i,.i,.i,.i,.i,.s,.i,.i,.b,.i]
def zJ:Int→List DC:=fkF Sl
def Nm (a:Rows) (k:Int):Int×Rows:=(k+30*a.length,vM zJ 30 a.length k)
theorem nhu (k_:Int→Rows→α) (a:Rows) (k:Int) (qj:Gk (.sl [.i,.i,.i,.i,.i,.i,.i,.i,.i,.i,.i,.i,.i,.i,.i,.i,.i,.i,.i,.i,.i,.i,.i,.i,.i,.str,.i,.i,.bool,.i]) (.sl a)) (aF:PO 30 a k=true):∃N,nn8 Sl jK k_ N a k=k_ (Nm a k).1 (Nm a k).2:=by
 obtain⟨hl,hw⟩:=oy qj
 exact nx9 Sl 30 (by rfl) (by decide) jK k_ a k hl (fun r hr=>Pj (hw r hr)) aF
def Qh (a:Rows) (k:Int):Int:=k+30*a.length
theorem nhk (k_:Int→α) (a:Rows) (k:Int) (qj:Gk (.sl [.i,.i,.i,.i,.i,.i,.i,.i,.i,.i,.i,.i,.i,.i,.i,.i,.i,.i,.i,.i,.i,.i,.i,.i,.i,.str,.i,.i,.bool,.i]) (.sl a)) (aF:Ry zJ 30 a k=true):∃N,nmC Sl jK k_ N a k=k_ (Qh a k):=by
 exact nx5 Sl 30 (by rfl) (by decide) jK k_ a k (oy qj).1 aF
def yY (k_:Int→Rows→α) (ov:Int→Int→Rows→α) (rv i:Int) (ND:Rows):α:=
 let z0:Rows:=List.set ND (Int.toNat i) (bF (nth ND (Int.toNat i)) 0 [.int rv])
 let z1:Rows:=List.set z0 (Int.toNat i) (bF (nth z0 (Int.toNat i)) 1 [.int (nK (rv+1))])
 let z2:Int:=nK ((nK (rv+1))+1)
 let z3:Rows:=List.set z1 (Int.toNat i) (bF (nth z1 (Int.toNat i)) 2 [.int z2])
 let z4:List DC:=nth z3 (Int.toNat i)
 let z5:Rows:=rR z4 3
 let z6:Int:=nK (z2+1)
 let z7:Int×Rows:=rX z5 z6
 bif decide (i<len ND) then
  bif DF (DF true (idx i ND)) (inl (Int.toNat i) ND) then
   bif DF (DF true (idx i z0)) (inl (Int.toNat i) z0) then
    bif DF (DF true (idx i z1)) (inl (Int.toNat i) z1) then
     bif DF (DF (DF true (idx i z3)) (inl (Int.toNat i) z3)) (PO 1 z5 z6) then
      ov z7.1 (nK (i+1)) (List.set z3 (Int.toNat i) (bF z4 3 [.sl z7.2]))
     else jK
    else jK
   else jK
  else jK
 else k_ rv ND
def yX (k_:Int→Rows→α) (N m_:Nat):Int→Int→Rows→α:=
 Nat.rec (motive:=fun _=>Int→Int→Rows→α) (fun _ _ _=>jK) (fun _ ov=>yY jK k_ ov) m_
theorem UH (k_:Int→Rows→α) (N m_:Nat):yX jK k_ N (m_+1)=yY jK k_ (yX jK k_ N m_):=rfl
def R6 {α:Type} (jK:α) (k_:Int→Rows→α) (l0:Int→Int→Rows→α) (a:Rows) (k:Int):α:=
 l0 k 0 a
def nah (k_:Int→Rows→α) (N:Nat) (a:Rows) (k:Int):α:=R6 jK k_ (yX jK k_ N N) a k
def sj (r:List DC) (k:Int):List DC×Int:=([.int (k),.int (k+1),.int (k+1+1),.sl (vM rJ 1 (rR r 3).length (k+1+1+1))],k+1+1+1+1*(rR r 3).length)
def Tq (r:List DC) (k:Int):Bool:=PO 1 (rR r 3) (k+1+1+1)
def Nl (a:Rows) (k:Int):Int×Rows:=((Ta sj a k).2,(Ta sj a k).1)
theorem nnr (k_:Int→Rows→α) (a:Rows) (k:Int) (qj:Gk (.sl [.i,.i,.i,.sl [.i]]) (.sl a)) (aF:y9 sj Tq a k=true):∃N,nah jK k_ N a k=k_ (Nl a k).1 (Nl a k).2:=by
 obtain⟨hl,hw⟩:=oy qj
 refine⟨a.length+1, ?_⟩
 unfold nah R6 Nl
 refine nwX a k sj Tq (yX jK k_ (a.length+1)) k_ aF ?_ ?_
 ·intro n i k b h hb hn hg
  rw[UH]
  have hr:=Pj (hw (nth a i) (uB h))
  have hk: -1*4≤k:=by have:=(WK hg).2.1;omega
  rw[←hn] at hg hr ⊢
  have BH:i<b.length:=by omega
  generalize LM:nth b i=r at*
  match r,hr with
  | [a0,a1,a2,a3],_=>
   have Hm:PO 1 (DC.cX a3) (k+1+1+1)=true:=hg
   obtain⟨g1,g2,g3⟩:=WK Hm
   have rr:∀x0 x1 x2 x3:DC,rR [x0,x1,x2,x3] 3=DC.cX x3:=fun _ _ _ _=>rfl
   have s0:∀x0 x1 x2 x3 v:DC,bF [x0,x1,x2,x3] 0 [v]=[v,x1,x2,x3]:=fun _ _ _ _ _=>rfl
   have s1:∀x0 x1 x2 x3 v:DC,bF [x0,x1,x2,x3] 1 [v]=[x0,v,x2,x3]:=fun _ _ _ _ _=>rfl
   have s2:∀x0 x1 x2 x3 v:DC,bF [x0,x1,x2,x3] 2 [v]=[x0,x1,v,x3]:=fun _ _ _ _ _=>rfl
   have s3:∀x0 x1 x2 x3 v:DC,bF [x0,x1,x2,x3] 3 [v]=[x0,x1,x2,v]:=fun _ _ _ _ _=>rfl
   have w0:nK (k+1)=k+1:=nF (by omega) (by omega)
   have w1:nK (k+1+1)=k+1+1:=nF (by omega) (by omega)
   have w2:nK (k+1+1+1)=k+1+1+1:=nF (by omega) (by omega)
   simp only[yY,oV BH,nT BH,vL BH,n_ h hl,Int.toNat_natCast,nc,nn,cond_true,LM,w0,w1,w2,nwP,nwV,List.set_set,ntm BH,s0,s1,s2,s3,rr,rX,Hm,sj]
 ·intro n k b hb
  rw[UH]
  simp only[yY,←hb,nQ,cond_false]
def nbF (a:Rows):Bool:=sm a && a.all (fun r=>sm (rR r 3))
theorem nqZ {a:Rows} (h:nbF a=true) {k:Int} (h0:0≤k) (h1:k≤600000000000000):y9 sj Tq a k=true∧k≤(Nl a k).1∧(Nl a k).1≤k+281475110928384:=by
 simp only[nbF,Bool.and_eq_true,List.all_eq_true] at h
 have hl:=t_ h.1
 obtain⟨h2,h3,h4⟩:=nn9 (f:=sj) (g:=Tq) (B:=1125899906842000) (C:=16777224) (by omega) a k (fun r hr k k0 k1=>by
  have hs:=t_ (h.2 r hr)
  refine⟨zw (h.2 r hr) (by omega) (by omega), ?_, ?_⟩
  ·show k≤k+1+1+1+1*((rR r 3).length:Int)
   omega
  ·show k+1+1+1+1*((rR r 3).length:Int)≤k+16777224
   omega) h0 (by omega)
 exact⟨h2,h3,by show (Ta sj a k).2≤_;omega⟩
def yS (k_:Int→α) (a:Rows) (ov:Int→Int→α) (rv i:Int):α:=
 let z0:Int:=nK ((nK (rv+1))+1)
 let z1:Int:=nK (z0+1)
 let z2:Int:=rq (rR (nth a (Int.toNat i)) 3) z1
 bif decide (i<len a) then
  bif DF true (idx i a) then
   bif (rI (nth a (Int.toNat i)) 0) != rv then k_ (-1)
   else bif DF true (idx i a) then
     bif (rI (nth a (Int.toNat i)) 1) != (nK (rv+1)) then k_ (-1)
     else bif DF true (idx i a) then
       bif (rI (nth a (Int.toNat i)) 2) != z0 then k_ (-1)
       else bif DF (DF true (idx i a)) (Ry rJ 1 (rR (nth a (Int.toNat i)) 3) z1) then
         bif decide (z2<0) then k_ (-1)
         else ov z2 (nK (i+1))
        else jK
      else jK
    else jK
  else jK
 else k_ rv
def yR (k_:Int→α) (N:Nat) (a:Rows) (m_:Nat):Int→Int→α:=
 Nat.rec (motive:=fun _=>Int→Int→α) (fun _ _=>jK) (fun _ ov=>yS jK k_ a ov) m_
theorem Uy (k_:Int→α) (N:Nat) (a:Rows) (m_:Nat):yR jK k_ N a (m_+1)=yS jK k_ a (yR jK k_ N a m_):=rfl
def RY {α:Type} (jK:α) (k_:Int→α) (l0:Int→Int→α) (a:Rows) (k:Int):α:=
 l0 k 0
def Z3 (k_:Int→α) (N:Nat) (a:Rows) (k:Int):α:=RY jK k_ (yR jK k_ N a N) a k
def ngX (a:Rows) (k:Int):Bool:=same a (Ta sj a k).1 && y9 sj Tq a k
def Zi (a:Rows) (k:Int):Int:=(Ta sj a k).2
theorem nne (k_:Int→α) (a:Rows) (k:Int) (qj:Gk (.sl [.i,.i,.i,.sl [.i]]) (.sl a)) (aF:ngX a k=true):∃N,Z3 jK k_ N a k=k_ (Zi a k):=by
 obtain⟨hl,hw⟩:=oy qj
 simp only[ngX,Bool.and_eq_true] at aF
 refine⟨a.length+1, ?_⟩
 unfold Z3 RY Zi
 refine nwN a k sj Tq (yR jK k_ (a.length+1) a) k_ aF.2 (rG aF.1) ?_ ?_
 ·intro n i k h hn hg
  rw[Uy]
  have Hm:PO 1 (rR (nth a i) 3) (k+1+1+1)=true:=hg
  obtain⟨g1,g2,g3⟩:=WK Hm
  have e:rR (nth a i) 3=vM rJ 1 (rR (nth a i) 3).length (k+1+1+1):=congrArg (fun r=>rR r 3) hn
  have hh:Ry rJ 1 (rR (nth a i) 3) (k+1+1+1)=true:=by
   simp only[Ry,Bool.and_eq_true]
   exact⟨by rw[←e];exact pP _,Hm⟩
  have r0:rI (nth a i) 0=k:=congrArg (fun r=>rI r 0) hn
  have r1:rI (nth a i) 1=k+1:=congrArg (fun r=>rI r 1) hn
  have r2:rI (nth a i) 2=k+1+1:=congrArg (fun r=>rI r 2) hn
  have w0:nK (k+1)=k+1:=nF (by omega) (by omega)
  have w1:nK (k+1+1)=k+1+1:=nF (by omega) (by omega)
  have w2:nK (k+1+1+1)=k+1+1+1:=nF (by omega) (by omega)
  have hz:¬k+1+1+1+1*((rR (nth a i) 3).length:Int)<0:=by omega
  simp only[yS,oV h,nT h,n_ h hl,Int.toNat_natCast,nc,nn,cond_true,hh,rq,hz,w0,w1,w2,r0,r1,r2,bne_self_eq_false,beq_self_eq_true,Bool.not_true,decide_false,cond_false,sj]
 ·intro n k
  rw[Uy]
  simp only[yS,nQ,cond_false]
theorem nyI {a:Rows} (h:nbF a=true) {k:Int} (h0:0≤k) (h1:k≤600000000000000):y9 sj Tq a k=true∧ngX (Ta sj a k).1 k=true∧(Ta sj (Ta sj a k).1 k).2=(Ta sj a k).2∧k≤(Ta sj a k).2∧(Ta sj a k).2≤k+281475110928384:=by
 obtain⟨h2,h3,h4⟩:=nqZ h h0 h1
 have hl:∀r k,(rR (sj r k).1 3).length=(rR r 3).length:=fun r k=>qg rJ 1 _ _
 have hf:∀r k,sj (sj r k).1 k=sj r k:=by
  intro r k
  have e:=hl r k
  unfold sj at e ⊢
  simp only[e]
 have hg:∀r k,Tq (sj r k).1 k=Tq r k:=by
  intro r k
  simp only[Tq,PO,sm,hl]
 obtain⟨t1,t2⟩:=nn_ hf hg a k
 refine⟨h2, ?_,by rw[t1],h3,h4⟩
 simp only[ngX,t1,t2,h2,pP,Bool.and_self]
def VJ {α:Type} (k_:Bool→α) (n low high:Int):α:=
 k_ (bif decide (low≤n) then decide (n≤high) else false)
def nf (n low high:Int):Bool:=VJ id n low high
theorem ne2 {α:Type} (k_:Bool→α) (n low high:Int):VJ k_ n low high=k_ (nf n low high):=by
 rfl
def zM (k_:Bool→α) (x:Rows) (nZ yA:Int) (wW:Rows) (ov:Int→α) (om:Int):α:=
 let z0:Bool:= !(nf (rI (nth x (Int.toNat om)) 0) 0 4095)
 bif decide (om<nZ) then
  bif DF true (idx om x) then
   bif KW z0 true (KW (decide (0<om)) (DF true (idx (nK (om - 1)) wW)) true) then
    bif bif z0 then true else bif decide (0<om) then decide (rI (nth x (Int.toNat om)) 0≤rI (nth wW (Int.toNat (nK (om - 1)))) 0) else false then k_ false
    else ov (nK (om+1))
   else jK
  else jK
 else k_ (bif nf yA 0 281474976710654 then decide (len wW≤8) else false)
def zL (k_:Bool→α) (N:Nat) (x:Rows) (nZ yA:Int) (wW:Rows) (m_:Nat):Int→α:=
 Nat.rec (motive:=fun _=>Int→α) (fun _=>jK) (fun _ ov=>zM jK k_ x nZ yA wW ov) m_
theorem Vr (k_:Bool→α) (N:Nat) (x:Rows) (nZ yA:Int) (wW:Rows) (m_:Nat):zL jK k_ N x nZ yA wW (m_+1)=zM jK k_ x nZ yA wW (zL jK k_ N x nZ yA wW m_):=rfl
def Tu {α:Type} (jK:α) (k_:Bool→α) (l0:Rows→Int→Int→Rows→Int→α) (f:nH):α:=
 l0 f.qd (len f.qd) f.Mac f.qd 0
def nb1 (k_:Bool→α) (N:Nat) (f:nH):α:=Tu jK k_ (fun x nZ yA wW=>zL jK k_ N x nZ yA wW N) f
def wc (f:nH):Bool:=bif qQ (fun i r=>bif !(nf (rI r 0) 0 4095) then true else bif decide ((0:Int)<(i:Int)) then decide (rI r 0≤rI (nth f.qd (Int.toNat (nK ((i:Int) - 1)))) 0) else false) f.qd 0 then false else bif nf f.Mac 0 281474976710654 then decide (len f.qd≤8) else false
theorem npi (k_:Bool→α) (f:nH) (h_f:jI nH.ct f.enc):∃N,nb1 jK k_ N f=k_ (wc f):=by
 obtain⟨hl,_⟩:=oy (nH.nuk h_f)
 refine⟨f.qd.length+1, ?_⟩
 unfold nb1 Tu
 refine (qW f.qd (zL jK k_ (f.qd.length+1) f.qd (len f.qd) f.Mac f.qd) (fun i r c=>bif bif !(nf (rI r 0) 0 4095) then true else bif decide ((0:Int)<(i:Int)) then decide (rI r 0≤rI (nth f.qd (Int.toNat (nK ((i:Int) - 1)))) 0) else false then k_ false else c) (k_ (bif nf f.Mac 0 281474976710654 then decide (len f.qd≤8) else false)) ?_ ?_).trans ?_
 ·intro n i h
  have hp:decide ((0:Int)<(i:Int))=true→idx (nK ((i:Int) - 1)) f.qd=true:=by
   intro h0
   have h0:=of_decide_eq_true h0
   rw[nF (by omega) (by omega),show (i:Int) - 1=((i - 1:Nat):Int) by omega]
   exact nT (by omega)
  rw[Vr]
  simp only[zM,oV h,nT h,n_ h hl,Int.toNat_natCast,nc,nn,cond_true]
  exact nyz (naT (fun _=>rfl) (fun _=>naT (fun h0=>hp h0) (fun _=>rfl)))
 ·intro n
  rw[Vr]
  simp only[zM,nQ,cond_false]
 ·refine (vb (fun i r=>bif !(nf (rI r 0) 0 4095) then true else bif decide ((0:Int)<(i:Int)) then decide (rI r 0≤rI (nth f.qd (Int.toNat (nK ((i:Int) - 1)))) 0) else false) _ _ f.qd 0).trans ?_
  exact Jk rfl rfl
def Ns (k_:Bool→α) (yA:Int) (wW:Rows) (ov:Int→α) (k:Int):α:=
 let z0:Bool:= !(nf (rI (nth wW (Int.toNat k)) 0) 0 4095)
 bif decide (k<len wW) then
  bif KW z0 (DF true (idx k wW)) (KW (decide (0<k)) (DF (DF (DF true (idx k wW)) (idx k wW)) (idx (nK (k - 1)) wW)) (DF true (idx k wW))) then
   bif bif z0 then true else bif decide (0<k) then decide (rI (nth wW (Int.toNat k)) 0≤rI (nth wW (Int.toNat (nK (k - 1)))) 0) else false then k_ false
   else ov (nK (k+1))
  else jK
 else k_ (bif nf yA 0 281474976710654 then decide (len wW≤8) else false)
def Nr (k_:Bool→α) (N:Nat) (yA:Int) (wW:Rows) (m_:Nat):Int→α:=
 Nat.rec (motive:=fun _=>Int→α) (fun _=>jK) (fun _ ov=>Ns jK k_ yA wW ov) m_
theorem WQ (k_:Bool→α) (N:Nat) (yA:Int) (wW:Rows) (m_:Nat):Nr jK k_ N yA wW (m_+1)=Ns jK k_ yA wW (Nr jK k_ N yA wW m_):=rfl
def TX {α:Type} (jK:α) (k_:Bool→α) (l0:Int→Rows→Int→α) (f:nH):α:=
 l0 f.Mac f.qd 0
def ndA (k_:Bool→α) (N:Nat) (f:nH):α:=TX jK k_ (fun yA wW=>Nr jK k_ N yA wW N) f
theorem nq7 (k_:Bool→α) (f:nH) (h_f:jI nH.ct f.enc):∃N,ndA jK k_ N f=k_ (wc f):=by
 obtain⟨hl,_⟩:=oy (nH.nuk h_f)
 refine⟨f.qd.length+1, ?_⟩
 unfold ndA TX
 refine (qW f.qd (Nr jK k_ (f.qd.length+1) f.Mac f.qd) (fun i r c=>bif bif !(nf (rI r 0) 0 4095) then true else bif decide ((0:Int)<(i:Int)) then decide (rI r 0≤rI (nth f.qd (Int.toNat (nK ((i:Int) - 1)))) 0) else false then k_ false else c) (k_ (bif nf f.Mac 0 281474976710654 then decide (len f.qd≤8) else false)) ?_ ?_).trans ?_
 ·intro n i h
  have hp:decide ((0:Int)<(i:Int))=true→idx (nK ((i:Int) - 1)) f.qd=true:=by
   intro h0
   have h0:=of_decide_eq_true h0
   rw[nF (by omega) (by omega),show (i:Int) - 1=((i - 1:Nat):Int) by omega]
   exact nT (by omega)
  rw[WQ]
  simp only[Ns,oV h,nT h,n_ h hl,Int.toNat_natCast,nc,nn,cond_true]
  exact nyz (naT (fun _=>rfl) (fun _=>naT (fun h0=>hp h0) (fun _=>rfl)))
 ·intro n
  rw[WQ]
  simp only[Ns,nQ,cond_false]
 ·refine (vb (fun i r=>bif !(nf (rI r 0) 0 4095) then true else bif decide ((0:Int)<(i:Int)) then decide (rI r 0≤rI (nth f.qd (Int.toNat (nK ((i:Int) - 1)))) 0) else false) _ _ f.qd 0).trans ?_
  exact Jk rfl rfl
def xk {α:Type} (k_:Bool→α) (g:nz):α:=
 bif bif !(nf g.oX 0 65535) then true else bif !(nf g.oW 0 65535) then true else decide (320<len g.Body) then k_ false
 else bif g.Kind==6 then k_ (bif nf g.Seq 0 4294967295 then bif nf g.Ack 0 4294967295 then bif nf g.Flags 0 31 then nf g.uE 0 65535 else false else false else false)
 else bif g.Kind==17 then k_ (bif g.Seq==0 then bif g.Ack==0 then bif g.Flags==0 then g.uE==0 else false else false else false)
 else k_ false
def sd (g:nz):Bool:=xk id g
theorem nmI {α:Type} (k_:Bool→α) (g:nz):xk k_ g=k_ (sd g):=by
 exact Jk rfl (Jk rfl (Jk rfl rfl))
def na0 {α:Type} (k_:Bool→α) (g:nz):α:=
 bif bif !(nf g.oX 0 65535) then true else bif !(nf g.oW 0 65535) then true else decide (320<len g.Body) then k_ false
 else bif g.Kind==17 then k_ (bif g.Seq==0 then bif g.Ack==0 then bif g.Flags==0 then g.uE==0 else false else false else false)
 else k_ (bif g.Kind==6 then bif nf g.Seq 0 4294967295 then bif nf g.Ack 0 4294967295 then bif nf g.Flags 0 31 then nf g.uE 0 65535 else false else false else false else false)
theorem nom {α:Type} (k_:Bool→α) (g:nz):na0 k_ g=k_ (sd g):=by
 unfold na0 sd xk
 refine Jk rfl ?_
 by_cases h6:g.Kind=6
 ·have h17:(g.Kind==17)=false:=by rw[h6];rfl
  have h6':(g.Kind==6)=true:=by rw[h6];rfl
  rw[h17,h6']
  rfl
 ·have h6':(g.Kind==6)=false:=by simpa using h6
  rw[h6']
  cases (g.Kind==17)<;>rfl
def Zz {α:Type} (k_:Bool→α) (flags:Int):α:=
 k_ (bif (bits .and .i64 flags 16) != 0 then (bits .andNot .i64 flags 25)==0 else false)
def Va (flags:Int):Bool:=Zz id flags
theorem nmT {α:Type} (k_:Bool→α) (flags:Int):Zz k_ flags=k_ (Va flags):=by
 rfl
def zo {α:Type} (k_:Bool→α) (p:nk):α:=
 k_ (bif nf p.xe 0 281474976710655 then bif nf p.xf 0 281474976710655 then bif nf p.sO (-1) 4095 then bif nf p.Tos 0 255 then bif nf p.Ttl 0 255 then bif nf p.Id 0 65535 then bif nf p.qC 0 4294967295 then bif nf p.rl 0 4294967295 then bif sd p.rZ then bif decide (len p.rZ.Body≤128) then true else bif p.rZ.Kind==6 then Va p.rZ.Flags else false else false else false else false else false else false else false else false else false else false)
def rA (p:nk):Bool:=zo id p
theorem nsn {α:Type} (k_:Bool→α) (p:nk):zo k_ p=k_ (rA p):=by
 rfl
def ngb {α:Type} (k_:Bool→α) (p:nk):α:=
 bif bif !(nf p.xe 0 281474976710655) then true else bif !(nf p.xf 0 281474976710655) then true else bif !(nf p.sO (-1) 4095) then true else bif !(nf p.Tos 0 255) then true else bif !(nf p.Ttl 0 255) then true else bif !(nf p.Id 0 65535) then true else bif !(nf p.qC 0 4294967295) then true else bif !(nf p.rl 0 4294967295) then true else !(sd p.rZ) then k_ false
 else k_ (bif bif p.rZ.Kind==6 then (bits .andNot .i64 p.rZ.Flags 9)==16 else false then true else decide (len p.rZ.Body≤128))
theorem nwu {f:Int} (h:nf f 0 31=true):((bits .andNot .i64 f 9)==16)=Va f:=by
 have key:∀n:Fin 32,((bits .andNot .i64 ((n.val:Nat):Int) 9)==16)=Va ((n.val:Nat):Int):=by decide+kernel
 have h0:0≤f∧f≤31:=by
  unfold nf VJ at h
  by_cases h1:0≤f
  ·by_cases h2:f≤31
   ·exact⟨h1,h2⟩
   ·simp [h1,h2] at h
  ·simp [h1] at h
 have:=key ⟨f.toNat,by omega⟩
 simp only at this
 rw[show ((f.toNat:Nat):Int)=f by omega] at this
 exact this
theorem nyb {g:nz} (h:sd g=true) (h6:(g.Kind==6)=true):nf g.Flags 0 31=true:=by
 unfold sd xk at h
 rw[h6] at h
 cases hb:nf g.Flags 0 31
 ·rw[hb] at h
  revert h
  cases (bif !(nf g.oX 0 65535) then true else bif !(nf g.oW 0 65535) then true else decide (320<len g.Body))<;>cases nf g.Seq 0 4294967295<;>cases nf g.Ack 0 4294967295<;>simp
 ·rfl
theorem ntK {α:Type} (k_:Bool→α) (p:nk):ngb k_ p=k_ (rA p):=by
 unfold ngb rA zo
 cases nf p.xe 0 281474976710655
 ·rfl
 cases nf p.xf 0 281474976710655
 ·rfl
 cases nf p.sO (-1) 4095
 ·rfl
 cases nf p.Tos 0 255
 ·rfl
 cases nf p.Ttl 0 255
 ·rfl
 cases nf p.Id 0 65535
 ·rfl
 cases nf p.qC 0 4294967295
 ·rfl
 cases nf p.rl 0 4294967295
 ·rfl
 cases hs:sd p.rZ
 ·rfl
 cases h6:(p.rZ.Kind==6)
 ·cases decide (len p.rZ.Body≤128)<;>rfl
 ·rw[nwu (nyb hs h6)]
  cases Va p.rZ.Flags<;>cases decide (len p.rZ.Body≤128)<;>rfl
def w6 (k_:Int→α) (domain o_:Int) (list_:Rows) (nZ:Int) (ov:Int→α) (om:Int):α:=
 bif decide (om<nZ) then
  bif DF true (idx om list_) then
   bif bif (rI (nth list_ (Int.toNat om)) 0)==domain then (rI (nth list_ (Int.toNat om)) 1)==o_ else false then k_ om
   else ov (nK (om+1))
  else jK
 else k_ (-1)
def w5 (k_:Int→α) (N:Nat) (domain o_:Int) (list_:Rows) (nZ:Int) (m_:Nat):Int→α:=
 Nat.rec (motive:=fun _=>Int→α) (fun _=>jK) (fun _ ov=>w6 jK k_ domain o_ list_ nZ ov) m_
theorem Rz (k_:Int→α) (N:Nat) (domain o_:Int) (list_:Rows) (nZ:Int) (m_:Nat):w5 jK k_ N domain o_ list_ nZ (m_+1)=w6 jK k_ domain o_ list_ nZ (w5 jK k_ N domain o_ list_ nZ m_):=rfl
def Pq {α:Type} (jK:α) (k_:Int→α) (l0:Int→Int→α) (list_:Rows) (domain o_:Int):α:=
 l0 (len list_) 0
def VS (k_:Int→α) (N:Nat) (list_:Rows) (domain o_:Int):α:=Pq jK k_ (fun nZ=>w5 jK k_ N domain o_ list_ nZ N) list_ domain o_
def tI (list_:Rows) (domain o_:Int):Int:=findIdx (fun _ r=>bif (rI r 0)==domain then (rI r 1)==o_ else false) list_ 0
theorem njk (k_:Int→α) (list_:Rows) (domain o_:Int) (pg:Gk (.sl [.i,.i,.i,.bool]) (.sl list_)):∃N,VS jK k_ N list_ domain o_=k_ (tI list_ domain o_):=by
 obtain⟨hl,_⟩:=oy pg
 refine⟨list_.length+1, ?_⟩
 unfold VS Pq
 refine (qW list_ (w5 jK k_ (list_.length+1) domain o_ list_ (len list_)) (fun i r c=>bif bif (rI r 0)==domain then (rI r 1)==o_ else false then k_ (i:Int) else c) (k_ (-1)) ?_ ?_).trans ?_
 ·intro n i h
  rw[Rz]
  simp only[w6,oV h,nT h,n_ h hl,Int.toNat_natCast,nc,nn,cond_true]
 ·intro n
  rw[Rz]
  simp only[w6,nQ,cond_false]
 ·exact nbi (fun i r=>bif (rI r 0)==domain then (rI r 1)==o_ else false) k_ list_ 0
def xJ (k_:Bool→α) (list_ x:Rows) (nZ:Int) (ov:Int→α) (om:Int):α:=
 bif decide (om<nZ) then
  bif DF true (idx om x) then
   bif bif !(nf (rI (nth x (Int.toNat om)) 0) 0 7) then true else bif !(nf (rI (nth x (Int.toNat om)) 1) 0 1023) then true else bif !(nf (rI (nth x (Int.toNat om)) 2) 0 63) then true else (tI list_ (rI (nth x (Int.toNat om)) 0) (rI (nth x (Int.toNat om)) 1)) != om then k_ false
   else ov (nK (om+1))
  else jK
 else k_ (decide (len list_≤96))
def xI (k_:Bool→α) (N:Nat) (list_ x:Rows) (nZ:Int) (m_:Nat):Int→α:=
 Nat.rec (motive:=fun _=>Int→α) (fun _=>jK) (fun _ ov=>xJ jK k_ list_ x nZ ov) m_
theorem S2 (k_:Bool→α) (N:Nat) (list_ x:Rows) (nZ:Int) (m_:Nat):xI jK k_ N list_ x nZ (m_+1)=xJ jK k_ list_ x nZ (xI jK k_ N list_ x nZ m_):=rfl
def Qv {α:Type} (jK:α) (k_:Bool→α) (l0:Rows→Int→Int→α) (list_:Rows):α:=
 l0 list_ (len list_) 0
def Xz (k_:Bool→α) (N:Nat) (list_:Rows):α:=Qv jK k_ (fun x nZ=>xI jK k_ N list_ x nZ N) list_
def xV (r:List DC):Bool:=bif !(nf (rI r 0) 0 7) then true else bif !(nf (rI r 1) 0 1023) then true else !(nf (rI r 2) 0 63)
def pC (list_:Rows):Bool:=bif decide (96<len list_) then false else bif qQ (fun i r=>bif xV r then true else zi (fun j=>bif (rI (nth list_ j) 0)==(rI r 0) then (rI (nth list_ j) 1)==(rI r 1) else false) i 0) list_ 0 then false else true
theorem nkA (k_:Bool→α) (list_:Rows) (pg:Gk (.sl [.i,.i,.i,.bool]) (.sl list_)):∃N,Xz jK k_ N list_=k_ (pC list_):=by
 obtain⟨hl,_⟩:=oy pg
 refine⟨list_.length+1, ?_⟩
 unfold Xz Qv
 refine (qW list_ (xI jK k_ (list_.length+1) list_ list_ (len list_)) (fun i r c=>bif (bif xV r then true else (tI list_ (rI r 0) (rI r 1)) != (i:Int)) then k_ false else c) (k_ (decide (len list_≤96))) ?_ ?_).trans ?_
 ·intro n i h
  rw[S2]
  simp only[xJ,oV h,nT h,n_ h hl,Int.toNat_natCast,nc,nn,cond_true]
  unfold xV
  cases nf (rI (nth list_ i) 0) 0 7<;>cases nf (rI (nth list_ i) 1) 0 1023<;>cases nf (rI (nth list_ i) 2) 0 63<;>rfl
 ·intro n
  rw[S2]
  simp only[xJ,nQ,cond_false]
 ·refine (vb (fun i r=>bif xV r then true else (tI list_ (rI r 0) (rI r 1)) != (i:Int)) _ _ list_ 0).trans ?_
  have e:qQ (fun i r=>bif xV r then true else (tI list_ (rI r 0) (rI r 1)) != (i:Int)) list_ 0=qQ (fun i r=>bif xV r then true else zi (fun j=>bif (rI (nth list_ j) 0)==(rI r 0) then (rI (nth list_ j) 1)==(rI r 1) else false) i 0) list_ 0:=by
   apply nko
   intro i hi
   rw[Nat.zero_add]
   have hf:=ni3 (fun _ r=>bif (rI r 0)==(rI (nth list_ i) 0) then (rI r 1)==(rI (nth list_ i) 1) else false) list_ 0 i hi (by simp)
   rw[Nat.zero_add] at hf
   have hf:((tI list_ (rI (nth list_ i) 0) (rI (nth list_ i) 1)) != (i:Int))=_:=hf
   rw[hf]
  rw[e]
  unfold pC
  by_cases h9:96<len list_
  ·simp only[decide_eq_true h9,cond_true,show decide (len list_≤96)=false from decide_eq_false (by omega)]
   cases qQ (fun i r=>bif xV r then true else zi (fun j=>bif (rI (nth list_ j) 0)==(rI r 0) then (rI (nth list_ j) 1)==(rI r 1) else false) i 0) list_ 0<;>rfl
  ·simp only[decide_eq_false h9,cond_false,show decide (len list_≤96)=true from decide_eq_true (by omega)]
   exact Jk rfl rfl
def vz (k_:Bool→α) (l1:Int→Int→Int→Int→α) (list_:Rows) (ov:Int→α) (k:Int):α:=
 bif decide (k<len list_) then
  bif DF true (idx k list_) then
   bif bif !(nf (rI (nth list_ (Int.toNat k)) 0) 0 7) then true else bif !(nf (rI (nth list_ (Int.toNat k)) 1) 0 1023) then true else !(nf (rI (nth list_ (Int.toNat k)) 2) 0 63) then k_ false
   else l1 k (rI (nth list_ (Int.toNat k)) 0) (rI (nth list_ (Int.toNat k)) 1) 0
  else jK
 else k_ true
def vA (k_:Bool→α) (ov:Int→α) (list_:Rows) (k x nZ:Int) (ih1:Int→α) (i:Int):α:=
 let z0:Bool:=(rI (nth list_ (Int.toNat i)) 0)==x
 bif decide (i<k) then
  bif KW z0 (DF (DF true (idx i list_)) (idx i list_)) (DF true (idx i list_)) then
   bif bif z0 then (rI (nth list_ (Int.toNat i)) 1)==nZ else false then k_ false
   else ih1 (nK (i+1))
  else jK
 else ov (nK (k+1))
def rn (k_:Bool→α) (N:Nat) (ov:Int→α) (list_:Rows) (k x nZ:Int) (m_:Nat):Int→α:=
 Nat.rec (motive:=fun _=>Int→α) (fun _=>jK) (fun _ ih1=>vA jK k_ ov list_ k x nZ ih1) m_
theorem Tc (k_:Bool→α) (N:Nat) (ov:Int→α) (list_:Rows) (k x nZ:Int) (m_:Nat) (i:Int):rn jK k_ N ov list_ k x nZ (m_+1) i=vA jK k_ ov list_ k x nZ (rn jK k_ N ov list_ k x nZ m_) i:=rfl
def tZ (k_:Bool→α) (N:Nat) (list_:Rows) (m_:Nat):Int→α:=
 Nat.rec (motive:=fun _=>Int→α) (fun _=>jK) (fun _ ov=>vz jK k_ (fun k x nZ=>rn jK k_ N ov list_ k x nZ N) list_ ov) m_
theorem Tb (k_:Bool→α) (N:Nat) (list_:Rows) (m_:Nat) (k:Int):tZ jK k_ N list_ (m_+1) k=vz jK k_ (fun k x nZ=>rn jK k_ N (tZ jK k_ N list_ m_) list_ k x nZ N) list_ (tZ jK k_ N list_ m_) k:=rfl
def Yu {α:Type} (jK:α) (k_:Bool→α) (l0:Int→α) (list_:Rows):α:=
 bif decide (96<len list_) then k_ false
 else l0 0
def Rm (k_:Bool→α) (N:Nat) (list_:Rows):α:=Yu jK k_ (tZ jK k_ N list_ N) list_
theorem nmf (k_:Bool→α) (list_:Rows) (pg:Gk (.sl [.i,.i,.i,.bool]) (.sl list_)):∃N,Rm jK k_ N list_=k_ (pC list_):=by
 obtain⟨hl,_⟩:=oy pg
 refine⟨list_.length+1, ?_⟩
 unfold Rm Yu pC
 refine Jk rfl ?_
 have inner:∀(ih:Int→α) (i:Nat),i<list_.length→rn jK k_ (list_.length+1) ih list_ (i:Int) (rI (nth list_ i) 0) (rI (nth list_ i) 1) (list_.length+1) 0=bif zi (fun j=>bif (rI (nth list_ j) 0)==(rI (nth list_ i) 0) then (rI (nth list_ j) 1)==(rI (nth list_ i) 1) else false) i 0 then k_ false else ih ((i:Int)+1):=by
  intro ih i hi
  have hw:nK ((i:Int)+1)=(i:Int)+1:=n_ hi hl
  have:=nl4 (σ:=Unit) i (fun n j _=>rn jK k_ (list_.length+1) ih list_ (i:Int) (rI (nth list_ i) 0) (rI (nth list_ i) 1) n j) (fun j c s=>bif (bif (rI (nth list_ j) 0)==(rI (nth list_ i) 0) then (rI (nth list_ j) 1)==(rI (nth list_ i) 1) else false) then k_ false else c s) (fun _=>ih ((i:Int)+1)) ?_ ?_ (list_.length+1) () (by omega)
  ·exact this.trans (nrL (fun j=>bif (rI (nth list_ j) 0)==(rI (nth list_ i) 0) then (rI (nth list_ j) 1)==(rI (nth list_ i) 1) else false) (k_ false) (ih ((i:Int)+1)) i 0)
  ·intro n j _ hj
   show rn jK k_ (list_.length+1) ih list_ (i:Int) (rI (nth list_ i) 0) (rI (nth list_ i) 1) (n+1) (j:Int)=_
   rw[Tc]
   have h1:decide ((j:Int)<(i:Int))=true:=decide_eq_true (by omega)
   have h2:idx (j:Int) list_=true:=nT (by omega)
   have h3:nK ((j:Int)+1)=(j:Int)+1:=nF (by omega) (by omega)
   simp only[vA,h1,h2,h3,Int.toNat_natCast,nc,nn,zx,cond_true]
  ·intro n _
   show rn jK k_ (list_.length+1) ih list_ (i:Int) (rI (nth list_ i) 0) (rI (nth list_ i) 1) (n+1) (i:Int)=_
   rw[Tc]
   have h1:decide ((i:Int)<(i:Int))=false:=decide_eq_false (by omega)
   simp only[vA,h1,hw,cond_false]
 refine (vv list_ (tZ jK k_ (list_.length+1) list_) (fun i r c=>bif (bif xV r then true else zi (fun j=>bif (rI (nth list_ j) 0)==(rI r 0) then (rI (nth list_ j) 1)==(rI r 1) else false) i 0) then k_ false else c) (k_ true) ?_ ?_ (list_.length+1) (by omega)).trans ?_
 ·intro n i h
  rw[Tb]
  simp only[vz,oV h,nT h,Int.toNat_natCast,nc,nn,cond_true,zx,inner _ i h]
  show (bif xV (nth list_ i) then k_ false else _)=_
  cases xV (nth list_ i)<;>rfl
 ·intro n
  rw[Tb]
  simp only[vz,nQ,cond_false]
 ·refine (vb (fun i r=>bif xV r then true else zi (fun j=>bif (rI (nth list_ j) 0)==(rI r 0) then (rI (nth list_ j) 1)==(rI r 1) else false) i 0) _ _ list_ 0).trans ?_
  exact Jk rfl rfl
def VP (k_:Rows→α) (l:Rows):α:=
 bif DF true (oT 16 [] l) then
  k_ l
 else jK
theorem njj (k_:Rows→α) (l:Rows) (aF:sm l=true):VP jK k_ l=k_ (oQ l):=by
 unfold VP
 rw[qH aF (show 16≤8388608 by omega)]
 rfl
def XN (k_:nd→α) (m:nd):α:=
 bif DF true (sm m.nV) then
  k_ (⟨oQ m.nV⟩:nd)
 else jK
def nl5 (m:nd):Bool:=sm m.nV
theorem nkR (k_:nd→α) (m:nd) (aF:nl5 m=true):XN jK k_ m=k_ (oQ m):=by
 have h:sm m.nV=true:=aF
 unfold XN
 simp only[h,nc,cond_true]
 rfl
def zQ (k_:Bool→α) (x:Rows) (nZ:Int) (qi:Rows) (ov:Int→α) (om:Int):α:=
 bif decide (om<nZ) then
  bif DF true (idx om x) then
   bif (len (rS (nth x (Int.toNat om)) 0)) != 128 then k_ false
   else ov (nK (om+1))
  else jK
 else k_ (decide (len qi≤64))
def zP (k_:Bool→α) (N:Nat) (x:Rows) (nZ:Int) (qi:Rows) (m_:Nat):Int→α:=
 Nat.rec (motive:=fun _=>Int→α) (fun _=>jK) (fun _ ov=>zQ jK k_ x nZ qi ov) m_
theorem Vx (k_:Bool→α) (N:Nat) (x:Rows) (nZ:Int) (qi:Rows) (m_:Nat):zP jK k_ N x nZ qi (m_+1)=zQ jK k_ x nZ qi (zP jK k_ N x nZ qi m_):=rfl
def Ty {α:Type} (jK:α) (k_:Bool→α) (l0:Rows→Int→Rows→Int→α) (m:nd):α:=
 l0 m.nV (len m.nV) m.nV 0
def nce (k_:Bool→α) (N:Nat) (m:nd):α:=Ty jK k_ (fun x nZ qi=>zP jK k_ N x nZ qi N) m
def qc (m:nd):Bool:=bif qQ (fun _ r=>(len (rS r 0)) != 128) m.nV 0 then false else decide (len m.nV≤64)
theorem npr (k_:Bool→α) (m:nd) (Vk:jI nd.ct m.enc):∃N,nce jK k_ N m=k_ (qc m):=by
 obtain⟨hl,_⟩:=oy (nd.xu Vk)
 refine⟨m.nV.length+1, ?_⟩
 unfold nce Ty qc
 refine (qW m.nV (zP jK k_ (m.nV.length+1) m.nV (len m.nV) m.nV) (fun i r c=>bif (len (rS r 0)) != 128 then k_ false else c) (k_ (decide (len m.nV≤64))) ?_ ?_).trans ?_
 ·intro n i h
  rw[Vx]
  simp only[zQ,oV h,nT h,n_ h hl,Int.toNat_natCast,nc,nn,cond_true]
 ·intro n
  rw[Vx]
  simp only[zQ,nQ,cond_false]
 ·refine (vb (fun _ r=>(len (rS r 0)) != 128) _ _ m.nV 0).trans ?_
  exact Jk rfl rfl
def Nu (k_:Bool→α) (qi:Rows) (ov:Int→α) (k:Int):α:=
 bif decide (k<len qi) then
  bif DF true (idx k qi) then
   bif (len (rS (nth qi (Int.toNat k)) 0)) != 128 then k_ false
   else ov (nK (k+1))
  else jK
 else k_ (decide (len qi≤64))
def Nt (k_:Bool→α) (N:Nat) (qi:Rows) (m_:Nat):Int→α:=
 Nat.rec (motive:=fun _=>Int→α) (fun _=>jK) (fun _ ov=>Nu jK k_ qi ov) m_
theorem WT (k_:Bool→α) (N:Nat) (qi:Rows) (m_:Nat):Nt jK k_ N qi (m_+1)=Nu jK k_ qi (Nt jK k_ N qi m_):=rfl
def T0 {α:Type} (jK:α) (k_:Bool→α) (l0:Rows→Int→α) (m:nd):α:=
 l0 m.nV 0
def ndJ (k_:Bool→α) (N:Nat) (m:nd):α:=T0 jK k_ (fun qi=>Nt jK k_ N qi N) m
theorem nre (k_:Bool→α) (m:nd) (Vk:jI nd.ct m.enc):∃N,ndJ jK k_ N m=k_ (qc m):=by
 obtain⟨hl,_⟩:=oy (nd.xu Vk)
 refine⟨m.nV.length+1, ?_⟩
 unfold ndJ T0 qc
 refine (qW m.nV (Nt jK k_ (m.nV.length+1) m.nV) (fun i r c=>bif (len (rS r 0)) != 128 then k_ false else c) (k_ (decide (len m.nV≤64))) ?_ ?_).trans ?_
 ·intro n i h
  rw[WT]
  simp only[Nu,oV h,nT h,n_ h hl,Int.toNat_natCast,nc,nn,cond_true]
 ·intro n
  rw[WT]
  simp only[Nu,nQ,cond_false]
 ·refine (vb (fun _ r=>(len (rS r 0)) != 128) _ _ m.nV 0).trans ?_
  exact Jk rfl rfl
def TI {α:Type} (k_:Bool→α) (n:Int):α:=
 k_ (bif n==2 then true else bif n==4 then true else bif n==8 then true else n==16)
def vx (n:Int):Bool:=TI id n
theorem ncQ {α:Type} (k_:Bool→α) (n:Int):TI k_ n=k_ (vx n):=by
 rfl
def ZD {α:Type} (k_:Bool→α) (n:Int):α:=
 k_ (bif n==1 then true else bif n==2 then true else bif n==4 then true else bif n==8 then true else n==16)
def na9 (n:Int):Bool:=ZD id n
theorem ZC {α:Type} (k_:Bool→α) (n:Int):ZD k_ n=k_ (na9 n):=by
 rfl
def Ob (k_:Int→α) (x n:Int):α:=
 bif DF true (!(n==0)) then
  k_ (bif decide (Int.tmod x n<0) then nK ((Int.tmod x n)+n) else Int.tmod x n)
 else jK
def PQ (x n:Int):Bool:=Ob false (fun _=>true) x n
def nbz (x n:Int):Int:=(Ob none (fun r0=>some (r0)) x n).getD 0
theorem nuA (k_:Int→α) (x n:Int) (aF:PQ x n=true):Ob jK k_ x n=k_ (nbz x n):=by
 exact uw (K:=fun r:Int=>k_ r) (ox pO) aF
def ncq (k_:Int→α) (r:ny):α:=
 let z0:Int:=nK ((nbz r.pV (nK (2*r.nR))) - (nbz r.Head (nK (2*r.nR))))
 bif !(vx r.nR) then k_ 0
 else bif DF (DF (DF true (PQ r.pV (nK (2*r.nR)))) (PQ r.Head (nK (2*r.nR)))) (PQ z0 (nK (2*r.nR))) then
   k_ (nbz z0 (nK (2*r.nR)))
  else jK
theorem net (k:Nat) (hk:k≤62) (a:Int):bits .and .i64 a ((2 ^ k - 1:Nat):Int)=a % ((2 ^ k:Nat):Int):=by
 have hp:2 ^ k≤2 ^ 62:=Nat.pow_le_pow_right (by decide) hk
 have h62:(2:Nat) ^ 62=4611686018427387904:=by decide
 have hd:2 ^ k ∣ (18446744073709551616:Nat):=by
  rw[show (18446744073709551616:Nat)=2 ^ 64 by decide]
  exact Nat.pow_dvd_pow 2 (by omega)
 have hc:(BitVec.ofInt 64 ((2 ^ k - 1:Nat):Int)).toNat=2 ^ k - 1:=by
  rw[BitVec.ofInt_natCast,BitVec.toNat_ofNat]
  exact Nat.mod_eq_of_lt (by omega)
 have hn:(BitVec.ofInt 64 a &&& BitVec.ofInt 64 ((2 ^ k - 1:Nat):Int)).toNat=(a % 18446744073709551616).toNat % 2 ^ k:=by
  rw[BitVec.toNat_and,hc,Nat.and_two_pow_sub_one_eq_mod,BitVec.toNat_ofInt]
  rfl
 have cd:(a % 18446744073709551616).toNat % 2 ^ k<2 ^ k:=Nat.mod_lt _ (Nat.pos_of_ne_zero (by intro h;have:=Nat.two_pow_pos k;omega))
 have h63:(((BitVec.ofInt 64 a &&& BitVec.ofInt 64 ((2 ^ k - 1:Nat):Int)).toNat:Nat):Int)<2 ^ 63:=by
  rw[hn]
  have:(2:Int) ^ 63=9223372036854775808:=by decide
  rw[this]
  omega
 have e:bits .and .i64 a ((2 ^ k - 1:Nat):Int)=(((BitVec.ofInt 64 a &&& BitVec.ofInt 64 ((2 ^ k - 1:Nat):Int)).toNat:Nat):Int):=
  ng3 (((BitVec.ofInt 64 a &&& BitVec.ofInt 64 ((2 ^ k - 1:Nat):Int)).toNat:Nat):Int) (Int.natCast_nonneg _) h63
 rw[e,hn,Int.natCast_emod,Int.toNat_of_nonneg (Int.emod_nonneg _ (by decide)),Int.emod_emod_of_dvd]
 exact Int.natCast_dvd_natCast.2 hd
theorem and_3 (a:Int):bits .and .i64 a 3=a % 4:=net 2 (by decide) a
theorem nzm (a:Int):bits .and .i64 a 7=a % 8:=net 3 (by decide) a
theorem nzr (a:Int):bits .and .i64 a 15=a % 16:=net 4 (by decide) a
theorem nzs (a:Int):bits .and .i64 a 31=a % 32:=net 5 (by decide) a
theorem WN {n:Int} (h:vx n=true):n=2∨n=4∨n=8∨n=16:=by
 unfold vx TI at h
 by_cases h2:n=2
 ·exact .inl h2
 by_cases h4:n=4
 ·exact .inr (.inl h4)
 by_cases h8:n=8
 ·exact .inr (.inr (.inl h8))
 by_cases h16:n=16
 ·exact .inr (.inr (.inr h16))
 simp [h2,h4,h8,h16] at h
theorem nbA {x n:Int} (hx: -9223372036854775808≤x) (BM:x≤9223372036854775807) (h:0<n) (h':n≤1000000):PQ x n=true∧nbz x n=x % n:=by
 have hn:(n==0)=false:=by simp;omega
 have e:nbz x n=bif decide (Int.tmod x n<0) then nK ((Int.tmod x n)+n) else Int.tmod x n:=by
  unfold nbz Ob
  rw[hn]
  rfl
 refine⟨by unfold PQ Ob;rw[hn];rfl, ?_⟩
 rw[e]
 have h1:=Int.tmod_eq_emod (a:=x) (b:=n)
 have h2:=Int.emod_nonneg x (show n≠0 by omega)
 have h3:=Int.emod_lt_of_pos x h
 by_cases hl:Int.tmod x n<0
 ·rw[decide_eq_true hl,cond_true]
  split at h1
  ·omega
  ·have hna:((n.natAbs:Nat):Int)=n:=by omega
   rw[hna] at h1
   rw[nF (by omega) (by omega)]
   omega
 ·rw[decide_eq_false hl,cond_false]
  split at h1
  ·omega
  ·have hna:((n.natAbs:Nat):Int)=n:=by omega
   rw[hna] at h1
   omega
def og (r:ny):Int:=bif vx r.nR then (r.pV - r.Head) % (2*r.nR) else 0
theorem npy (k_:Int→α) (r:ny) (h_r:jI ny.ct r.enc):ncq jK k_ r=k_ (og r):=by
 have ht:=ye (ny.nzl h_r)
 have hh:=ye (ny.nzh h_r)
 unfold ncq og
 cases hs:vx r.nR
 ·rfl
 ·have h2:nK (2*r.nR)=2*r.nR∧0<2*r.nR∧2*r.nR≤32:=by
   rcases WN hs with h | h | h | h<;>rw[h]<;>exact⟨rfl,by decide,by decide⟩
  obtain⟨h2,h3,h4⟩:=h2
  obtain⟨a1,a2⟩:=nbA ht.1 ht.2 h3 (by omega)
  obtain⟨b1,b2⟩:=nbA hh.1 hh.2 h3 (by omega)
  have n1:=Int.emod_nonneg r.pV (show 2*r.nR≠0 by omega)
  have n2:=Int.emod_lt_of_pos r.pV h3
  have m1:=Int.emod_nonneg r.Head (show 2*r.nR≠0 by omega)
  have m2:=Int.emod_lt_of_pos r.Head h3
  have hw:nK (r.pV % (2*r.nR) - r.Head % (2*r.nR))=r.pV % (2*r.nR) - r.Head % (2*r.nR):=nF (by omega) (by omega)
  obtain⟨c1,c2⟩:=nbA (x:=r.pV % (2*r.nR) - r.Head % (2*r.nR)) (by omega) (by omega) h3 (by omega)
  simp only[h2,a1,a2,b1,b2,hw,c1,c2,nc,nn,cond_true,Bool.not_true,cond_false]
  rw[←Int.sub_emod]
def ndR {α:Type} (k_:Int→α) (r:ny):α:=
 bif !(vx r.nR) then k_ 0
 else k_ (bits .and .i64 (nK (r.pV - r.Head)) (nK ((nK (2*r.nR)) - 1)))
theorem nrn {α:Type} (k_:Int→α) (r:ny):ndR k_ r=k_ (og r):=by
 unfold ndR og
 cases hs:vx r.nR
 ·rfl
 ·have key:bits .and .i64 (nK (r.pV - r.Head)) (nK ((nK (2*r.nR)) - 1))=(r.pV - r.Head) % (2*r.nR):=by
   rcases WN hs with h | h | h | h<;>rw[h]
   ·exact (and_3 _).trans (by rw[noE];show _=(r.pV - r.Head) % 4;omega)
   ·exact (nzm _).trans (by rw[noE];show _=(r.pV - r.Head) % 8;omega)
   ·exact (nzr _).trans (by rw[noE];show _=(r.pV - r.Head) % 16;omega)
   ·exact (nzs _).trans (by rw[noE];show _=(r.pV - r.Head) % 32;omega)
  simp only[key,Bool.not_true,cond_false,cond_true]
def yw {α:Type} (k_:Bool→α) (r:ny):α:=
 let z0:Int:=nK ((nK (2*r.nR)) - 1)
 k_ (bif nf r.oR 0 130944 then bif vx r.nR then bif nf r.Head 0 z0 then bif nf r.pV 0 z0 then decide (og r≤r.nR) else false else false else false else false)
def pJ (r:ny):Bool:=yw id r
theorem nhX {α:Type} (k_:Bool→α) (r:ny):yw k_ r=k_ (pJ r):=by
 rfl
def neT {α:Type} (k_:Bool→α) (q:nr):α:=
 k_ (bif nf q.oR 0 130944 then bif vx q.nR then nf q.Count 0 (nK ((nK (2*q.nR)) - 1)) else false else false)
def nrI (q:nr):Bool:=neT id q
theorem neS {α:Type} (k_:Bool→α) (q:nr):neT k_ q=k_ (nrI q):=by
 rfl
def nsu {α:Type} (k_:Bool→α) (v:oc):α:=
 k_ (bif decide (1≤v.Count) then bif decide (v.nes≤v.Count) then true else decide (v.nkl≤v.Time) else false)
def due (v:oc):Bool:=nsu id v
theorem nst {α:Type} (k_:Bool→α) (v:oc):nsu k_ v=k_ (due v):=by
 rfl
def ncC {α:Type} (k_:Bool→α) (v:oc):α:=
 let z0:Bool:=bif due v then v.nrX== !v.nvP else v.nrX==false
 bif bif !(nf v.nes 1 64) then true else bif !(nf v.nkl 0 64) then true else bif !(nf v.Count 0 1000000) then true else !(nf v.Time 0 1000000) then k_ false
 else k_ (bif decide (0<v.Count) then z0 else bif v.Time==0 then z0 else false)
def wg (v:oc):Bool:=ncC id v
theorem ncB {α:Type} (k_:Bool→α) (v:oc):ncC k_ v=k_ (wg v):=by
 exact Jk rfl rfl
def noR {α:Type} (k_:Bool→α) (q:nP):α:=
 bif bif !(pJ q.Ring) then true else bif !(nrI q.Device) then true else bif !(nrI q.Driver) then true else bif q.Device.oR != q.Driver.oR then true else bif q.Device.nR != q.Driver.nR then true else !(nf q.nkh 0 1000000000000) then k_ false
 else bif !q.nkj then k_ (bif bif q.va.pI.xe==0 then bif q.va.pI.xf==0 then bif q.va.pI.sO==0 then bif q.va.pI.Tos==0 then bif q.va.pI.Id==0 then bif q.va.pI.Ttl==0 then bif q.va.pI.qC==0 then bif q.va.pI.rl==0 then bif bif q.va.pI.rZ.Kind==0 then bif q.va.pI.rZ.oX==0 then bif q.va.pI.rZ.oW==0 then bif q.va.pI.rZ.Seq==0 then bif q.va.pI.rZ.Ack==0 then bif q.va.pI.rZ.Flags==0 then bif q.va.pI.rZ.uE==0 then bif q.va.pI.rZ.Body==[] then true else false else false else false else false else false else false else false else false then true else false else false else false else false else false else false else false else false else false then bif q.va.nR==0 then bif q.va.Count==0 then true else false else false else false)
 else k_ (bif rA q.va.pI then bif nf q.va.nR 0 320 then nf q.va.Count 1 320 else false else false)
def nkm (q:nP):Bool:=noR id q
theorem noQ {α:Type} (k_:Bool→α) (q:nP):noR k_ q=k_ (nkm q):=by
 exact Jk rfl (Jk rfl rfl)
def YN {α:Type} (k_:Bool→α) (r:pF):α:=
 let z0:Bool:=bif !(nf r.qC 0 4294967295) then true else !(nf r.nrJ 0 32)
 let z1:Bool:=bif r.Action==1 then r.Queue==0 else false
 bif bif !(nf r.Priority 0 1000) then true else bif r.Kind != 0 then bif r.Kind != 6 then bif r.Kind != 17 then true else z0 else z0 else z0 then k_ false
 else bif bif decide (r.Ze<0) then true else bif decide (r.ner<r.Ze) then true else bif decide (65535<r.ner) then true else !(nf r.sO (-2) 4095) then k_ false
 else k_ (bif r.Action==0 then bif nf r.Queue 0 3 then true else z1 else z1)
def RL (r:pF):Bool:=YN id r
theorem nhY {α:Type} (k_:Bool→α) (r:pF):YN k_ r=k_ (RL r):=by
 exact Jk rfl (Jk rfl rfl)
def OG (k_:Bool→α) (list_ x:Rows) (nZ:Int) (ov:Int→α) (om:Int):α:=
 bif decide (om<nZ) then
  bif DF true (idx om x) then
   bif !(RL (pF.na (nth x (Int.toNat om)) 0)) then k_ false
   else ov (nK (om+1))
  else jK
 else k_ (decide (len list_≤12))
def OE (k_:Bool→α) (N:Nat) (list_ x:Rows) (nZ:Int) (m_:Nat):Int→α:=
 Nat.rec (motive:=fun _=>Int→α) (fun _=>jK) (fun _ ov=>OG jK k_ list_ x nZ ov) m_
theorem XF (k_:Bool→α) (N:Nat) (list_ x:Rows) (nZ:Int) (m_:Nat):OE jK k_ N list_ x nZ (m_+1)=OG jK k_ list_ x nZ (OE jK k_ N list_ x nZ m_):=rfl
def Vz {α:Type} (jK:α) (k_:Bool→α) (l0:Rows→Int→Int→α) (list_:Rows):α:=
 l0 list_ (len list_) 0
def neX (k_:Bool→α) (N:Nat) (list_:Rows):α:=Vz jK k_ (fun x nZ=>OE jK k_ N list_ x nZ N) list_
def U3 (list_:Rows):Bool:=bif list_.all (fun r=>RL (pF.na r 0)) then decide (len list_≤12) else false
theorem nsk (k_:Bool→α) (list_:Rows) (pg:Gk (.sl [.i,.i,.i,.i,.i,.i,.i,.i,.i]) (.sl list_)):∃N,neX jK k_ N list_=k_ (U3 list_):=by
 obtain⟨hl,_⟩:=oy pg
 refine⟨list_.length+1, ?_⟩
 unfold neX Vz
 refine (qW list_ (OE jK k_ (list_.length+1) list_ list_ (len list_)) (fun i r c=>bif !(RL (pF.na r 0)) then k_ false else c) (k_ (decide (len list_≤12))) ?_ ?_).trans ?_
 ·intro n i h
  rw[XF]
  simp only[OG,oV h,nT h,n_ h hl,Int.toNat_natCast,nc,nn,cond_true]
 ·intro n
  rw[XF]
  simp only[OG,nQ,cond_false]
 ·refine (Sw (fun r=>RL (pF.na r 0)) _ _ list_ 0).trans ?_
  exact Jk rfl rfl
def O7 (k_:Bool→α) (list_:Rows) (ov:Int→α) (k:Int):α:=
 bif decide (k<len list_) then
  bif DF true (idx k list_) then
   bif !(RL (pF.na (nth list_ (Int.toNat k)) 0)) then k_ false
   else ov (nK (k+1))
  else jK
 else k_ (decide (len list_≤12))
def O6 (k_:Bool→α) (N:Nat) (list_:Rows) (m_:Nat):Int→α:=
 Nat.rec (motive:=fun _=>Int→α) (fun _=>jK) (fun _ ov=>O7 jK k_ list_ ov) m_
theorem Yz (k_:Bool→α) (N:Nat) (list_:Rows) (m_:Nat):O6 jK k_ N list_ (m_+1)=O7 jK k_ list_ (O6 jK k_ N list_ m_):=rfl
def WV {α:Type} (jK:α) (k_:Bool→α) (l0:Int→α) (list_:Rows):α:=
 l0 0
def nga (k_:Bool→α) (N:Nat) (list_:Rows):α:=WV jK k_ (O6 jK k_ N list_ N) list_
theorem ntH (k_:Bool→α) (list_:Rows) (pg:Gk (.sl [.i,.i,.i,.i,.i,.i,.i,.i,.i]) (.sl list_)):∃N,nga jK k_ N list_=k_ (U3 list_):=by
 obtain⟨hl,_⟩:=oy pg
 refine⟨list_.length+1, ?_⟩
 unfold nga WV
 refine (qW list_ (O6 jK k_ (list_.length+1) list_) (fun i r c=>bif !(RL (pF.na r 0)) then k_ false else c) (k_ (decide (len list_≤12))) ?_ ?_).trans ?_
 ·intro n i h
  rw[Yz]
  simp only[O7,oV h,nT h,n_ h hl,Int.toNat_natCast,nc,nn,cond_true]
 ·intro n
  rw[Yz]
  simp only[O7,nQ,cond_false]
 ·refine (Sw (fun r=>RL (pF.na r 0)) _ _ list_ 0).trans ?_
  exact Jk rfl rfl
def ncH (k_:Rows→α) (l:Rows):α:=
 bif DF true (oT 8 [] l) then
  k_ l
 else jK
theorem npQ (k_:Rows→α) (l:Rows) (aF:sm l=true):ncH jK k_ l=k_ (oQ l):=by
 unfold ncH
 rw[qH aF (show 8≤8388608 by omega)]
 rfl
def ncI (k_:nE→α) (p:nE):α:=
 bif DF true (sm p.py) then
  k_ (⟨p.oR,p.nR,p.Count,oQ p.py⟩:nE)
 else jK
def QZ (p:nE):Bool:=sm p.py
theorem npR (k_:nE→α) (p:nE) (aF:QZ p=true):ncI jK k_ p=k_ (oQ p):=by
 have h:sm p.py=true:=aF
 unfold ncI
 simp only[h,nc,cond_true]
 rfl
def ngz (k_:nE→α) (p:nE):α:=
 bif DF true (oT 8 [] p.py) then
  k_ p
 else jK
theorem nt5 (k_:nE→α) (p:nE) (aF:QZ p=true):ngz jK k_ p=k_ (oQ p):=by
 have h:sm p.py=true:=aF
 unfold ngz
 rw[qH h (show 8≤8388608 by omega)]
 rfl
def Qz (k_:Bool→α) (x:Rows) (nZ PT:Int) (ov:Int→Rows→α) (om:Int) (seen:Rows):α:=
 let z0:Bool:= !(nf (rI (nth x (Int.toNat om)) 0) 0 (nK (PT - 1)))
 let z1:Nat:=Int.toNat (rI (nth x (Int.toNat om)) 0)
 let z2:Bool:=DF (DF true (idx (rI (nth x (Int.toNat om)) 0) seen)) (inl z1 seen)
 let z3:List DC:=nth seen z1
 bif decide (om<nZ) then
  bif DF true (idx om x) then
   bif KW z0 true z2 then
    bif bif z0 then true else rB z3 0 then k_ false
    else bif z2 then
      ov (nK (om+1)) (List.set seen z1 (bF z3 0 [.bool true]))
     else jK
   else jK
  else jK
 else k_ true
def Qy (k_:Bool→α) (N:Nat) (x:Rows) (nZ PT:Int) (m_:Nat):Int→Rows→α:=
 Nat.rec (motive:=fun _=>Int→Rows→α) (fun _ _=>jK) (fun _ ov=>Qz jK k_ x nZ PT ov) m_
theorem Zn (k_:Bool→α) (N:Nat) (x:Rows) (nZ PT:Int) (m_:Nat):Qy jK k_ N x nZ PT (m_+1)=Qz jK k_ x nZ PT (Qy jK k_ N x nZ PT m_):=rfl
def YM (k_:Bool→α) (l0:Rows→Int→Int→Int→Rows→α) (p:nE):α:=
 bif bif !(nf p.oR 0 130944) then true else bif !(nf p.nR 1 512) then true else !(nf p.Count 0 16) then k_ false
 else bif DF true (xo 1 p.Count p.Count) then
   l0 p.py (len p.py) p.Count 0 (List.replicate (Int.toNat p.Count) ([.bool false]:List DC))
  else jK
def nhW (k_:Bool→α) (N:Nat) (p:nE):α:=YM jK k_ (fun x nZ PT=>Qy jK k_ N x nZ PT N) p
def PR {α σ:Type} (P:List DC→σ→Bool) (f:List DC→σ→σ) (x:α) (fin:σ→α):Rows→σ→α
 | [],s=>fin s
 | r::rs,s=>bif P r s then x else PR P f x fin rs (f r s)
theorem niP {α σ:Type} (list:Rows) (L:Nat→Int→σ→α) (P:List DC→σ→Bool) (f:List DC→σ→σ) (x:α) (fin:σ→α) (I:Nat→σ→Prop) (hI:∀i s,i<list.length→I i s→P (nth list i) s=false→I (i+1) (f (nth list i) s))
  (hs:∀n i s,i<list.length→I i s→L (n+1) (i:Int) s=bif P (nth list i) s then x else L n ((i:Int)+1) (f (nth list i) s))
  (hz:∀n s,I list.length s→L (n+1) (list.length:Int) s=fin s):∀(m i:Nat) (s:σ),i+m=list.length→I i s→L (m+1) (i:Int) s=PR P f x fin (list.drop i) s
 | 0,i,s,h,hi=>by
  have:i=list.length:=by omega
  subst this
  rw[hz 0 s hi,List.drop_length]
  rfl
 | m+1,i,s,h,hi=>by
  have cd:i<list.length:=by omega
  rw[hs (m+1) i s cd hi,List.drop_eq_getElem_cons cd]
  have hn:nth list i=list[i]:=by simp [nth,List.getD_eq_getElem?_getD,cd]
  show _=bif P list[i] s then x else PR P f x fin (list.drop (i+1)) (f list[i] s)
  rw[←hn]
  cases hp:P (nth list i) s
  ·rw[cond_false,cond_false]
   have:=niP list L P f x fin I hI hs hz m (i+1) (f (nth list i) s) (by omega) (hI i s cd hi hp)
   rw[←this]
   rfl
  ·rfl
theorem naS {α σ:Type} (list:Rows) (L:Nat→Int→σ→α) (P:List DC→σ→Bool) (f:List DC→σ→σ) (x:α) (fin:σ→α) (I:Nat→σ→Prop) (hI:∀i s,i<list.length→I i s→P (nth list i) s=false→I (i+1) (f (nth list i) s))
  (hs:∀n i s,i<list.length→I i s→L (n+1) (i:Int) s=bif P (nth list i) s then x else L n ((i:Int)+1) (f (nth list i) s))
  (hz:∀n s,I list.length s→L (n+1) (list.length:Int) s=fin s) (s:σ) (h:I 0 s):L (list.length+1) 0 s=PR P f x fin list s:=
 niP list L P f x fin I hI hs hz list.length 0 s (by omega) h
theorem nr8 {α β σ:Type} (k:β→α) (P:List DC→σ→Bool) (f:List DC→σ→σ) {x:β} (fin:σ→β):∀(list:Rows) (s:σ),PR P f (k x) (fun s=>k (fin s)) list s=k (PR P f x fin list s)
 | [],s=>rfl
 | r::rs,s=>by
  simp only[PR]
  cases P r s
  ·exact nr8 k P f fin rs _
  ·rfl
theorem cond_congr {α:Type} {c d:Bool} {x y u v:α} (h:c=d) (h1:c=true→x=u) (h2:c=false→y=v):(bif c then x else y)=(bif d then u else v):=by
 subst h
 cases c
 ·exact h2 rfl
 ·exact h1 rfl
def nwZ (n:Int) (r:List DC) (s:Rows):Bool:=bif !(nf (rI r 0) 0 (n - 1)) then true else rB (nth s (Int.toNat (rI r 0))) 0
def ntr (r:List DC) (s:Rows):Rows:=List.set s (Int.toNat (rI r 0)) (bF (nth s (Int.toNat (rI r 0))) 0 [.bool true])
theorem nl6 (r:List DC) (s:Rows):(ntr r s).length=s.length:=by simp [ntr]
def sg (p:nE):Bool:=bif bif !(nf p.oR 0 130944) then true else bif !(nf p.nR 1 512) then true else !(nf p.Count 0 16) then false
 else PR (nwZ p.Count) ntr false (fun _=>true) p.py (List.replicate (Int.toNat p.Count) [.bool false])
theorem nuv (k_:Bool→α) (p:nE) (h_p:jI nE.ct p.enc):∃N,nhW jK k_ N p=k_ (sg p):=by
 obtain⟨hl,hw⟩:=oy (nE.nrP h_p)
 refine⟨p.py.length+1, ?_⟩
 unfold nhW YM sg
 refine pj (fun _=>rfl) (fun hg=> ?_)
 have hc:0≤p.Count∧p.Count≤16:=by
  cases h1:nf p.oR 0 130944
  ·rw[h1] at hg;cases hg
  cases h2:nf p.nR 1 512
  ·rw[h1,h2] at hg;cases hg
  cases h3:nf p.Count 0 16
  ·rw[h1,h2,h3] at hg;cases hg
  exact n0.1 h3
 have hmk:xo 1 p.Count p.Count=true:=by
  simp only[xo,Bool.and_eq_true,decide_eq_true_eq]
  omega
 rw[hmk,nc,cond_true]
 refine (naS p.py (Qy jK k_ (p.py.length+1) p.py (len p.py) p.Count) (nwZ p.Count) ntr (k_ false) (fun _=>k_ true) (fun _ s=>(s.length:Int)=p.Count) (fun i s _ h _=> ?_) ?_ ?_ (List.replicate (Int.toNat p.Count) [.bool false]) ?_).trans ?_
 ·show ((ntr (nth p.py i) s).length:Int)=p.Count
  rw[nl6,h]
 ·intro n i s h hs
  rw[Zn]
  have hw1:nK (p.Count - 1)=p.Count - 1:=nF (by omega) (by omega)
  have hx:nf (rI (nth p.py i) 0) 0 (p.Count - 1)=true→idx (rI (nth p.py i) 0) s=true∧inl (Int.toNat (rI (nth p.py i) 0)) s=true:=by
   intro hb
   have:=n0.1 hb
   refine⟨?_, ?_⟩
   ·simp only[idx,Bool.and_eq_true,decide_eq_true_eq];omega
   ·simp only[inl,decide_eq_true_eq];omega
  unfold nwZ
  simp only[Qz,oV h,nT h,n_ h hl,Int.toNat_natCast,nc,nn,cond_true,hw1]
  cases hb:nf (rI (nth p.py i) 0) 0 (p.Count - 1)
  ·rw[naT (g:= !false) (x:=true) (fun _=>rfl) (fun h=>by cases h)]
   rfl
  ·obtain⟨x1,x2⟩:=hx hb
   rw[x1,x2]
   rfl
 ·intro n s _
  rw[Zn]
  simp only[Qz,nQ,cond_false]
 ·simp only[List.length_replicate];omega
 ·exact nr8 k_ _ _ (fun _=>true) p.py _
def Rp (k_:Bool→α) (PT:Int) (RD:Rows) (ov:Int→Rows→α) (k:Int) (seen:Rows):α:=
 let z0:Bool:= !(nf (rI (nth RD (Int.toNat k)) 0) 0 (nK (PT - 1)))
 let z1:Bool:=idx (rI (nth RD (Int.toNat k)) 0) seen
 let z2:Nat:=Int.toNat (rI (nth RD (Int.toNat k)) 0)
 let z3:Bool:=inl z2 seen
 let z4:List DC:=nth seen z2
 bif decide (k<len RD) then
  bif KW z0 (DF true (idx k RD)) (DF (DF (DF (DF true (idx k RD)) (idx k RD)) z1) z3) then
   bif bif z0 then true else rB z4 0 then k_ false
   else bif DF (DF (DF true (idx k RD)) z1) z3 then
     ov (nK (k+1)) (List.set seen z2 (bF z4 0 [.bool true]))
    else jK
  else jK
 else k_ true
def Ro (k_:Bool→α) (N:Nat) (PT:Int) (RD:Rows) (m_:Nat):Int→Rows→α:=
 Nat.rec (motive:=fun _=>Int→Rows→α) (fun _ _=>jK) (fun _ ov=>Rp jK k_ PT RD ov) m_
theorem naX (k_:Bool→α) (N:Nat) (PT:Int) (RD:Rows) (m_:Nat):Ro jK k_ N PT RD (m_+1)=Rp jK k_ PT RD (Ro jK k_ N PT RD m_):=rfl
def Zd (k_:Bool→α) (l0:Int→Rows→Int→Rows→α) (p:nE):α:=
 bif bif !(nf p.oR 0 130944) then true else bif !(nf p.nR 1 512) then true else !(nf p.Count 0 16) then k_ false
 else bif DF true (xo 1 p.Count p.Count) then
   l0 p.Count p.py 0 (List.replicate (Int.toNat p.Count) ([.bool false]:List DC))
  else jK
def niU (k_:Bool→α) (N:Nat) (p:nE):α:=Zd jK k_ (fun PT RD=>Ro jK k_ N PT RD N) p
theorem nvp (k_:Bool→α) (p:nE) (h_p:jI nE.ct p.enc):∃N,niU jK k_ N p=k_ (sg p):=by
 obtain⟨hl,hw⟩:=oy (nE.nrP h_p)
 refine⟨p.py.length+1, ?_⟩
 unfold niU Zd sg
 refine pj (fun _=>rfl) (fun hg=> ?_)
 have hc:0≤p.Count∧p.Count≤16:=by
  cases h1:nf p.oR 0 130944
  ·rw[h1] at hg;cases hg
  cases h2:nf p.nR 1 512
  ·rw[h1,h2] at hg;cases hg
  cases h3:nf p.Count 0 16
  ·rw[h1,h2,h3] at hg;cases hg
  exact n0.1 h3
 have hmk:xo 1 p.Count p.Count=true:=by
  simp only[xo,Bool.and_eq_true,decide_eq_true_eq]
  omega
 rw[hmk,nc,cond_true]
 refine (naS p.py (Ro jK k_ (p.py.length+1) p.Count p.py) (nwZ p.Count) ntr (k_ false) (fun _=>k_ true) (fun _ s=>(s.length:Int)=p.Count) (fun i s _ h _=> ?_) ?_ ?_ (List.replicate (Int.toNat p.Count) [.bool false]) ?_).trans ?_
 ·show ((ntr (nth p.py i) s).length:Int)=p.Count
  rw[nl6,h]
 ·intro n i s h hs
  rw[naX]
  have hw1:nK (p.Count - 1)=p.Count - 1:=nF (by omega) (by omega)
  have hx:nf (rI (nth p.py i) 0) 0 (p.Count - 1)=true→idx (rI (nth p.py i) 0) s=true∧inl (Int.toNat (rI (nth p.py i) 0)) s=true:=by
   intro hb
   have:=n0.1 hb
   refine⟨?_, ?_⟩
   ·simp only[idx,Bool.and_eq_true,decide_eq_true_eq];omega
   ·simp only[inl,decide_eq_true_eq];omega
  unfold nwZ
  simp only[Rp,oV h,nT h,n_ h hl,Int.toNat_natCast,nc,nn,cond_true,hw1]
  cases hb:nf (rI (nth p.py i) 0) 0 (p.Count - 1)
  ·rw[naT (g:= !false) (x:=true) (fun _=>rfl) (fun h=>by cases h)]
   rfl
  ·obtain⟨x1,x2⟩:=hx hb
   rw[x1,x2]
   rfl
 ·intro n s _
  rw[naX]
  simp only[Rp,nQ,cond_false]
 ·simp only[List.length_replicate];omega
 ·exact nr8 k_ _ _ (fun _=>true) p.py _
def Vv (k_:nE→Bool→α) (p:nE) (list_:Rows):α:=
 let z0:nE:=(⟨(oQ p).oR,(oQ p).nR,(oQ p).Count,((oQ p).py)++list_⟩:nE)
 bif DF true (QZ p) then
  bif DF true (oT 8 ((oQ p).py) list_) then
   bif bif !(sg p) then true else !(sg z0) then
    bif DF true (QZ p) then
     k_ (oQ p) false
    else jK
   else k_ z0 true
  else jK
 else jK
def Qc (p:nE) (list_:Rows):Bool:=sm p.py && decide (p.py.length+list_.length≤134217728)
theorem nyB {p:nE} {list_:Rows} (h:Qc p list_=true):sm p.py=true∧p.py.length+list_.length≤134217728:=by
 simpa [Qc] using h
def pK (p:nE) (list_:Rows):nE×Bool:=bif bif !(sg p) then true else !(sg (⟨p.oR,p.nR,p.Count,p.py++list_⟩:nE)) then (p,false) else ((⟨p.oR,p.nR,p.Count,p.py++list_⟩:nE),true)
theorem Vt (k_:nE→Bool→α) (p:nE) (list_:Rows) (aF:Qc p list_=true):Vv jK k_ p list_=k_ (pK p list_).1 (pK p list_).2:=by
 have h:Qc p list_=true:=aF
 obtain⟨h1,h2⟩:=nyB h
 have hp:QZ p=true:=h1
 unfold Vv pK
 simp only[oQ,hp,qY h2 (show 8≤1048576 by omega),nc,cond_true]
 generalize (bif !(sg p) then true else !(sg (⟨p.oR,p.nR,p.Count,p.py++list_⟩:nE)))=b
 cases b<;>rfl
def wD (k_:Int→Rows→α) (a:nd) (k:Int):α:=
 bif DF true (PO 1 a.nV k) then
  k_ ((uZ a.nV k).1) ((uZ a.nV k).2)
 else jK
def Ok (a:nd) (k:Int):Bool:=wD false (fun _ _=>true) a k
def xW (a:nd) (k:Int):Int×Rows:=(wD none (fun r0 r1=>some (r0,r1)) a k).getD (0,[])
theorem nlu (k_:Int→Rows→α) (a:nd) (k:Int) (aF:Ok a k=true):wD jK k_ a k=k_ (xW a k).1 (xW a k).2:=by
 exact uw (K:=fun r:Int×Rows=>k_ r.1 r.2) (ox (fun _=>⟨_,rfl,rfl⟩)) aF
def wA (k_:Int→α) (a:nd) (k:Int):α:=
 bif DF true (Ry sG 1 a.nV k) then
  bif decide (uW a.nV k<0) then k_ (-1)
  else k_ (uW a.nV k)
 else jK
def N0 (a:nd) (k:Int):Bool:=wA false (fun _=>true) a k
def Pn (a:nd) (k:Int):Int:=(wA none (fun r0=>some (r0)) a k).getD 0
theorem nlg (k_:Int→α) (a:nd) (k:Int) (aF:N0 a k=true):wA jK k_ a k=k_ (Pn a k):=by
 exact uw (K:=fun r:Int=>k_ r) (ox (qX pO pO)) aF
def yp (k_:Int→Rows→α) (a:nE) (k:Int):α:=
 bif DF true (PO 1 a.py k) then
  k_ ((rX a.py k).1) ((rX a.py k).2)
 else jK
def S9 (a:nE) (k:Int):Bool:=yp false (fun _ _=>true) a k
def QW (a:nE) (k:Int):Int×Rows:=(yp none (fun r0 r1=>some (r0,r1)) a k).getD (0,[])
theorem nqn (k_:Int→Rows→α) (a:nE) (k:Int) (aF:S9 a k=true):yp jK k_ a k=k_ (QW a k).1 (QW a k).2:=by
 exact uw (K:=fun r:Int×Rows=>k_ r.1 r.2) (ox (fun _=>⟨_,rfl,rfl⟩)) aF
def yn (k_:Int→α) (a:nE) (k:Int):α:=
 bif DF true (Ry rJ 1 a.py k) then
  bif decide (rq a.py k<0) then k_ (-1)
  else k_ (rq a.py k)
 else jK
def SY (a:nE) (k:Int):Bool:=yn false (fun _=>true) a k
def Vn (a:nE) (k:Int):Int:=(yn none (fun r0=>some (r0)) a k).getD 0
theorem nqf (k_:Int→α) (a:nE) (k:Int) (aF:SY a k=true):yn jK k_ a k=k_ (Vn a k):=by
 exact uw (K:=fun r:Int=>k_ r) (ox (qX pO pO)) aF
def wC (k_:Int→Rows→α) (a:nH) (k:Int):α:=
 bif DF true (PO 1 a.qd k) then
  k_ ((rX a.qd k).1) ((rX a.qd k).2)
 else jK
def Oj (a:nH) (k:Int):Bool:=wC false (fun _ _=>true) a k
def Py (a:nH) (k:Int):Int×Rows:=(wC none (fun r0 r1=>some (r0,r1)) a k).getD (0,[])
theorem nlq (k_:Int→Rows→α) (a:nH) (k:Int) (aF:Oj a k=true):wC jK k_ a k=k_ (Py a k).1 (Py a k).2:=by
 exact uw (K:=fun r:Int×Rows=>k_ r.1 r.2) (ox (fun _=>⟨_,rfl,rfl⟩)) aF
def wz (k_:Int→α) (a:nH) (k:Int):α:=
 bif DF true (Ry rJ 1 a.qd k) then
  bif decide (rq a.qd k<0) then k_ (-1)
  else k_ (rq a.qd k)
 else jK
def NY (a:nH) (k:Int):Bool:=wz false (fun _=>true) a k
def Vl (a:nH) (k:Int):Int:=(wz none (fun r0=>some (r0)) a k).getD 0
theorem nle (k_:Int→α) (a:nH) (k:Int) (aF:NY a k=true):wz jK k_ a k=k_ (Vl a k):=by
 exact uw (K:=fun r:Int=>k_ r) (ox (qX pO pO)) aF
def uq (k_:Int→Rows→α) (a:nh) (k:Int):α:=
 bif DF true (PO 7 a.nI k) then
  k_ ((Sj a.nI k).1) ((Sj a.nI k).2)
 else jK
def xp (a:nh) (k:Int):Bool:=uq false (fun _ _=>true) a k
def wS (a:nh) (k:Int):Int×Rows:=(uq none (fun r0 r1=>some (r0,r1)) a k).getD (0,[])
theorem nfo (k_:Int→Rows→α) (a:nh) (k:Int) (aF:xp a k=true):uq jK k_ a k=k_ (wS a k).1 (wS a k).2:=by
 exact uw (K:=fun r:Int×Rows=>k_ r.1 r.2) (ox (fun _=>⟨_,rfl,rfl⟩)) aF
def uo (k_:Int→α) (a:nh) (k:Int):α:=
 bif DF true (Ry nbg 7 a.nI k) then
  bif decide (U8 a.nI k<0) then k_ (-1)
  else k_ (U8 a.nI k)
 else jK
def xg (a:nh) (k:Int):Bool:=uo false (fun _=>true) a k
def NZ (a:nh) (k:Int):Int:=(uo none (fun r0=>some (r0)) a k).getD 0
theorem nfj (k_:Int→α) (a:nh) (k:Int) (aF:xg a k=true):uo jK k_ a k=k_ (NZ a k):=by
 exact uw (K:=fun r:Int=>k_ r) (ox (qX pO pO)) aF
def wE (k_:Int→Rows→α) (a:nJ) (k:Int):α:=
 bif DF true (PO 1 a.Table k) then
  k_ ((rX a.Table k).1) ((rX a.Table k).2)
 else jK
def Ol (a:nJ) (k:Int):Bool:=wE false (fun _ _=>true) a k
def Pz (a:nJ) (k:Int):Int×Rows:=(wE none (fun r0 r1=>some (r0,r1)) a k).getD (0,[])
theorem nlC (k_:Int→Rows→α) (a:nJ) (k:Int) (aF:Ol a k=true):wE jK k_ a k=k_ (Pz a k).1 (Pz a k).2:=by
 exact uw (K:=fun r:Int×Rows=>k_ r.1 r.2) (ox (fun _=>⟨_,rfl,rfl⟩)) aF
def wB (k_:Int→α) (a:nJ) (k:Int):α:=
 bif DF true (Ry rJ 1 a.Table k) then
  bif decide (rq a.Table k<0) then k_ (-1)
  else k_ (rq a.Table k)
 else jK
def N3 (a:nJ) (k:Int):Bool:=wB false (fun _=>true) a k
def Vo (a:nJ) (k:Int):Int:=(wB none (fun r0=>some (r0)) a k).getD 0
theorem nlm (k_:Int→α) (a:nJ) (k:Int) (aF:N3 a k=true):wB jK k_ a k=k_ (Vo a k):=by
 exact uw (K:=fun r:Int=>k_ r) (ox (qX pO pO)) aF
def vu (k_:Int→Rows→Rows→α) (a:ng) (k:Int):α:=
 let z0:Int×Rows:=Nn a.ni ((QW a.n7 k).1)
 bif DF true (S9 a.n7 k) then
  bif DF true (y9 sk Ts a.ni ((QW a.n7 k).1)) then
   k_ z0.1 ((QW a.n7 k).2) z0.2
  else jK
 else jK
def zu (a:ng) (k:Int):Bool:=vu false (fun _ _ _=>true) a k
def wG (a:ng) (k:Int):Int×Rows×Rows:=(vu none (fun r0 r1 r2=>some (r0,r1,r2)) a k).getD (0,[],[])
theorem njE (k_:Int→Rows→Rows→α) (a:ng) (k:Int) (aF:zu a k=true):vu jK k_ a k=k_ (wG a k).1 (wG a k).2.1 (wG a k).2.2:=by
 exact uw (K:=fun r:Int×Rows×Rows=>k_ r.1 r.2.1 r.2.2) (ox (ox (fun _=>⟨_,rfl,rfl⟩))) aF
def vt (k_:Int→α) (a:ng) (k:Int):α:=
 let z0:Int:=Zj a.ni (Vn a.n7 k)
 bif DF true (SY a.n7 k) then
  bif decide (Vn a.n7 k<0) then k_ (-1)
  else bif DF true (ngY a.ni (Vn a.n7 k)) then
    bif decide (z0<0) then k_ (-1)
    else k_ z0
   else jK
 else jK
def zj (a:ng) (k:Int):Bool:=vt false (fun _=>true) a k
def S0 (a:ng) (k:Int):Int:=(vt none (fun r0=>some (r0)) a k).getD 0
theorem nju (k_:Int→α) (a:ng) (k:Int) (aF:zj a k=true):vt jK k_ a k=k_ (S0 a k):=by
 exact uw (K:=fun r:Int=>k_ r) (ox (qX pO (ox (qX pO pO)))) aF
def uO (k_:Int→Rows→Rows→Rows→α) (a:nj) (k:Int):α:=
 let z0:Int×Rows:=wS a.Table ((PL a.oY k).1)
 let z1:Int×Rows:=Pz a.oO z0.1
 bif DF true (PO 9 a.oY k) then
  bif DF true (xp a.Table ((PL a.oY k).1)) then
   bif DF true (Ol a.oO z0.1) then
    k_ z1.1 ((PL a.oY k).2) z0.2 z1.2
   else jK
  else jK
 else jK
def yr (a:nj) (k:Int):Bool:=uO false (fun _ _ _ _=>true) a k
def th (a:nj) (k:Int):Int×Rows×Rows×Rows:=(uO none (fun r0 r1 r2 r3=>some (r0,r1,r2,r3)) a k).getD (0,[],[],[])
theorem nhy (k_:Int→Rows→Rows→Rows→α) (a:nj) (k:Int) (aF:yr a k=true):uO jK k_ a k=k_ (th a k).1 (th a k).2.1 (th a k).2.2.1 (th a k).2.2.2:=by
 exact uw (K:=fun r:Int×Rows×Rows×Rows=>k_ r.1 r.2.1 r.2.2.1 r.2.2.2) (ox (ox (ox (fun _=>⟨_,rfl,rfl⟩)))) aF
def uN (k_:Int→α) (a:nj) (k:Int):α:=
 let z0:Int:=NZ a.Table (RM a.oY k)
 let z1:Int:=Vo a.oO z0
 bif DF true (Ry nbf 9 a.oY k) then
  bif decide (RM a.oY k<0) then k_ (-1)
  else bif DF true (xg a.Table (RM a.oY k)) then
    bif decide (z0<0) then k_ (-1)
    else bif DF true (N3 a.oO z0) then
      bif decide (z1<0) then k_ (-1)
      else k_ z1
     else jK
   else jK
 else jK
def yh (a:nj) (k:Int):Bool:=uN false (fun _=>true) a k
def Qi (a:nj) (k:Int):Int:=(uN none (fun r0=>some (r0)) a k).getD 0
theorem nhn (k_:Int→α) (a:nj) (k:Int) (aF:yh a k=true):uN jK k_ a k=k_ (Qi a k):=by
 exact uw (K:=fun r:Int=>k_ r) (ox (qX pO (ox (qX pO (ox (qX pO pO)))))) aF
def yo (k_:Int→Rows→Rows→Rows→Rows→Rows→Rows→Rows→Rows→Rows→Rows→Rows→Rows→Rows→Rows→Rows→Rows→α) (a:nx) (k:Int):α:=
 let z0:Int×Rows:=Nk a.Maps ((xW a.oB k).1)
 let z1:Int×Rows×Rows:=wG a.Tx z0.1
 let z2:Int:=z1.1
 let z3:Int×Rows:=Nm a.Rx z2
 let z4:Int:=z3.1
 let z5:Int×Rows:=Nl a.oA z4
 let z6:Int:=z5.1
 let z7:Int×Rows:=PN a.ou z6
 let z8:Int:=z7.1
 let z9:Int×Rows:=Si a.pk z8
 let z10:Int:=z9.1
 let z11:Int×Rows:=Py a.Filter z10
 let z12:Int:=z11.1
 let z13:Int×Rows×Rows×Rows:=th a.nA z12
 let z14:Int:=z13.1
 let z15:Int×Rows:=PM a.p6 z14
 let z16:Int:=z15.1
 let z17:Int×Rows:=uZ a.vN z16
 let z18:Int:=z17.1
 let z19:Int×Rows:=rX a.oP z18
 let z20:Int:=z19.1
 let z21:Int×Rows:=rX a.pU z20
 bif DF true (Ok a.oB k) then
  bif DF true (PO 4 a.Maps ((xW a.oB k).1)) then
   bif DF true (zu a.Tx z0.1) then
    bif DF true (PO 30 a.Rx z2) then
     bif DF true (y9 sj Tq a.oA z4) then
      bif DF true (PO 6 a.ou z6) then
       bif DF true (PO 1 a.pk z8) then
        bif DF true (Oj a.Filter z10) then
         bif DF true (yr a.nA z12) then
          bif DF true (PO 8 a.p6 z14) then
           bif DF true (PO 1 a.vN z16) then
            bif DF true (PO 1 a.oP z18) then
             bif DF true (PO 1 a.pU z20) then
              k_ z21.1 ((xW a.oB k).2) z0.2 z1.2.1 z1.2.2 z3.2 z5.2 z7.2 z9.2 z11.2 z13.2.1 z13.2.2.1 z13.2.2.2 z15.2 z17.2 z19.2 z21.2
             else jK
            else jK
           else jK
          else jK
         else jK
        else jK
       else jK
      else jK
     else jK
    else jK
   else jK
  else jK
 else jK
def zt (a:nx) (k:Int):Bool:=yo false (fun _ _ _ _ _ _ _ _ _ _ _ _ _ _ _ _ _=>true) a k
def oL (a:nx) (k:Int):Int×Rows×Rows×Rows×Rows×Rows×Rows×Rows×Rows×Rows×Rows×Rows×Rows×Rows×Rows×Rows×Rows:=(yo none (fun r0 r1 r2 r3 r4 r5 r6 r7 r8 r9 r10 r11 r12 r13 r14 r15 r16=>some (r0,r1,r2,r3,r4,r5,r6,r7,r8,r9,r10,r11,r12,r13,r14,r15,r16)) a k).getD (0,[],[],[],[],[],[],[],[],[],[],[],[],[],[],[],[])
theorem nqi (k_:Int→Rows→Rows→Rows→Rows→Rows→Rows→Rows→Rows→Rows→Rows→Rows→Rows→Rows→Rows→Rows→Rows→α) (a:nx) (k:Int) (aF:zt a k=true):yo jK k_ a k=k_ (oL a k).1 (oL a k).2.1 (oL a k).2.2.1 (oL a k).2.2.2.1 (oL a k).2.2.2.2.1 (oL a k).2.2.2.2.2.1 (oL a k).2.2.2.2.2.2.1 (oL a k).2.2.2.2.2.2.2.1 (oL a k).2.2.2.2.2.2.2.2.1 (oL a k).2.2.2.2.2.2.2.2.2.1 (oL a k).2.2.2.2.2.2.2.2.2.2.1 (oL a k).2.2.2.2.2.2.2.2.2.2.2.1 (oL a k).2.2.2.2.2.2.2.2.2.2.2.2.1 (oL a k).2.2.2.2.2.2.2.2.2.2.2.2.2.1 (oL a k).2.2.2.2.2.2.2.2.2.2.2.2.2.2.1 (oL a k).2.2.2.2.2.2.2.2.2.2.2.2.2.2.2.1 (oL a k).2.2.2.2.2.2.2.2.2.2.2.2.2.2.2.2:=by
 exact uw (K:=fun r:Int×Rows×Rows×Rows×Rows×Rows×Rows×Rows×Rows×Rows×Rows×Rows×Rows×Rows×Rows×Rows×Rows=>k_ r.1 r.2.1 r.2.2.1 r.2.2.2.1 r.2.2.2.2.1 r.2.2.2.2.2.1 r.2.2.2.2.2.2.1 r.2.2.2.2.2.2.2.1 r.2.2.2.2.2.2.2.2.1 r.2.2.2.2.2.2.2.2.2.1 r.2.2.2.2.2.2.2.2.2.2.1 r.2.2.2.2.2.2.2.2.2.2.2.1 r.2.2.2.2.2.2.2.2.2.2.2.2.1 r.2.2.2.2.2.2.2.2.2.2.2.2.2.1 r.2.2.2.2.2.2.2.2.2.2.2.2.2.2.1 r.2.2.2.2.2.2.2.2.2.2.2.2.2.2.2.1 r.2.2.2.2.2.2.2.2.2.2.2.2.2.2.2.2) (ox (ox (ox (ox (ox (ox (ox (ox (ox (ox (ox (ox (ox (fun _=>⟨_,rfl,rfl⟩)))))))))))))) aF
def ym (k_:Int→α) (a:nx) (k:Int):α:=
 let z0:Int:=Qg a.Maps (Pn a.oB k)
 let z1:Int:=S0 a.Tx z0
 let z2:Int:=Qh a.Rx z1
 let z3:Int:=Zi a.oA z2
 let z4:Int:=S1 a.ou z3
 let z5:Int:=U7 a.pk z4
 let z6:Int:=Vl a.Filter z5
 let z7:Int:=Qi a.nA z6
 let z8:Int:=SZ a.p6 z7
 let z9:Int:=uW a.vN z8
 let z10:Int:=rq a.oP z9
 let z11:Int:=rq a.pU z10
 bif DF true (N0 a.oB k) then
  bif decide (Pn a.oB k<0) then k_ (-1)
  else bif DF true (Ry zI 4 a.Maps (Pn a.oB k)) then
    bif decide (z0<0) then k_ (-1)
    else bif DF true (zj a.Tx z0) then
      bif decide (z1<0) then k_ (-1)
      else bif DF true (Ry zJ 30 a.Rx z1) then
        bif decide (z2<0) then k_ (-1)
        else bif DF true (ngX a.oA z2) then
          bif decide (z3<0) then k_ (-1)
          else bif DF true (Ry Qa 6 a.ou z3) then
            bif decide (z4<0) then k_ (-1)
            else bif DF true (Ry PZ 1 a.pk z4) then
              bif decide (z5<0) then k_ (-1)
              else bif DF true (NY a.Filter z5) then
                bif decide (z6<0) then k_ (-1)
                else bif DF true (yh a.nA z6) then
                  bif decide (z7<0) then k_ (-1)
                  else bif DF true (Ry P_ 8 a.p6 z7) then
                    bif decide (z8<0) then k_ (-1)
                    else bif DF true (Ry sG 1 a.vN z8) then
                      bif decide (z9<0) then k_ (-1)
                      else bif DF true (Ry rJ 1 a.oP z9) then
                        bif decide (z10<0) then k_ (-1)
                        else bif DF true (Ry rJ 1 a.pU z10) then
                          bif decide (z11<0) then k_ (-1)
                          else k_ z11
                         else jK
                       else jK
                     else jK
                   else jK
                 else jK
               else jK
             else jK
           else jK
         else jK
       else jK
     else jK
   else jK
 else jK
def PI (a:nx) (k:Int):Bool:=ym false (fun _=>true) a k
def Zh (a:nx) (k:Int):Int:=(ym none (fun r0=>some (r0)) a k).getD 0
theorem nqc (k_:Int→α) (a:nx) (k:Int) (aF:PI a k=true):ym jK k_ a k=k_ (Zh a k):=by
 exact uw (K:=fun r:Int=>k_ r) (ox (qX pO (ox (qX pO (ox (qX pO (ox (qX pO (ox (qX pO (ox (qX pO (ox (qX pO (ox (qX pO (ox (qX pO (ox (qX pO (ox (qX pO (ox (qX pO (ox (qX pO pO)))))))))))))))))))))))))) aF
theorem nzJ (x k:Bool):((bif x then k else false)=true)=(x=true∧k=true):=by cases x<;>simp
def uR (a:nx):Bool:=sm a.oB.nV && (sm a.Maps && (sm a.Tx.n7.py && (uf a.Tx.ni && (sm a.Rx && (nbF a.oA && (sm a.ou && (sm a.pk && (sm a.Filter.qd && (sm a.nA.oY && (sm a.nA.Table.nI && (sm a.nA.oO.Table && (sm a.p6 && (sm a.vN && (sm a.oP && (sm a.pU)))))))))))))))
theorem nyd {a:nx} (h:te a=true):uR a=true:=by
 simp only[te,SI,vi,OW,uA,Ni,tf,SJ,vh,OV,tX,y8,tu,xU,vj,O1,nc,fT,nzJ,Bool.and_eq_true,and_true,true_and,tG,uH,uv,SK,List.all_eq_true] at h
 simp only[uR,uf,nbF,Bool.and_eq_true,List.all_eq_true]
 obtain⟨h0,h1,⟨h2,h3,h4⟩,h5,⟨h6,h7⟩,h8,h9,h10,⟨h11,h12,h13⟩,h14,h15,h16,h17⟩:=h
 exact⟨h0,h1,h2,⟨h3,h4⟩,h5,⟨h6,h7⟩,h8,h9,h10,h11,h12,h13,h14,h15,h16,h17⟩
theorem nxO {a:nx} (h:uR a=true):∃(K:Int) (P0 P1 P2 P3 P4 P5 P6 P7 P8 P9 P10 P11 P12 P13 P14 P15:Rows),zt a 1=true∧oL a 1=(K,P0,P1,P2,P3,P4,P5,P6,P7,P8,P9,P10,P11,P12,P13,P14,P15)∧0≤K∧PI (⟨⟨P0⟩,P1,⟨a.Tx.Ring,⟨a.Tx.n7.oR,a.Tx.n7.nR,a.Tx.n7.Count,P2⟩,P3,a.Tx.Next⟩,P4,P5,P6,P7,⟨a.Filter.Mac,a.Filter.ql,P8⟩,⟨P9,⟨P10⟩,⟨a.nA.oO.Key,P11⟩⟩,P12,a.sF,P13,P14,P15,a.Counters⟩:nx) 1=true∧Zh (⟨⟨P0⟩,P1,⟨a.Tx.Ring,⟨a.Tx.n7.oR,a.Tx.n7.nR,a.Tx.n7.Count,P2⟩,P3,a.Tx.Next⟩,P4,P5,P6,P7,⟨a.Filter.Mac,a.Filter.ql,P8⟩,⟨P9,⟨P10⟩,⟨a.nA.oO.Key,P11⟩⟩,P12,a.sF,P13,P14,P15,a.Counters⟩:nx) 1=K:=by
 simp only[uR,Bool.and_eq_true] at h
 obtain⟨s0,s1,s2,s3,s4,s5,s6,s7,s8,s9,s10,s11,s12,s13,s14,s15⟩:=h
 have l0:=t_ s0
 obtain⟨K0,hK0⟩:∃K:Int,K=1+1*(a.oB.nV.length:Int):=⟨_,rfl⟩
 have o0:PO 1 a.oB.nV 1=true:=zw s0 (by omega) (by omega)
 have e0:uZ a.oB.nV 1=(K0,(vM sG 1 a.oB.nV.length 1)):=by rw[hK0];rfl
 have q0:Ry sG 1 (vM sG 1 a.oB.nV.length 1) 1=true:=Qf s0 (by omega) (by omega)
 have g0:uW (vM sG 1 a.oB.nV.length 1) 1=K0:=by rw[hK0];simp only[uW,qg]
 have b0:0≤K0∧K0≤16777217:=by omega
 have z0:¬K0<0:=by omega
 clear hK0
 have l1:=t_ s1
 obtain⟨K1,hK1⟩:∃K:Int,K=K0+4*(a.Maps.length:Int):=⟨_,rfl⟩
 have o1:PO 4 a.Maps K0=true:=zw s1 (by omega) (by omega)
 have e1:Nk a.Maps K0=(K1,(vM zI 4 a.Maps.length K0)):=by rw[hK1];rfl
 have q1:Ry zI 4 (vM zI 4 a.Maps.length K0) K0=true:=Qf s1 (by omega) (by omega)
 have g1:Qg (vM zI 4 a.Maps.length K0) K0=K1:=by rw[hK1];simp only[Qg,qg]
 have b1:0≤K1∧K1≤83886081:=by omega
 have z1:¬K1<0:=by omega
 clear hK1
 have l2:=t_ s2
 obtain⟨K2,hK2⟩:∃K:Int,K=K1+1*(a.Tx.n7.py.length:Int):=⟨_,rfl⟩
 have o2:PO 1 a.Tx.n7.py K1=true:=zw s2 (by omega) (by omega)
 have e2:rX a.Tx.n7.py K1=(K2,(vM rJ 1 a.Tx.n7.py.length K1)):=by rw[hK2];rfl
 have q2:Ry rJ 1 (vM rJ 1 a.Tx.n7.py.length K1) K1=true:=Qf s2 (by omega) (by omega)
 have g2:rq (vM rJ 1 a.Tx.n7.py.length K1) K1=K2:=by rw[hK2];simp only[rq,qg]
 have b2:0≤K2∧K2≤100663297:=by omega
 have z2:¬K2<0:=by omega
 clear hK2
 obtain⟨o3,q3,g3,u3,v3⟩:=nyJ s3 (k:=K2) (by omega) (by omega)
 obtain⟨K3,hK3⟩:∃K:Int,K=(Ta sk a.Tx.ni K2).2:=⟨_,rfl⟩
 have e3:Nn a.Tx.ni K2=(K3,(Ta sk a.Tx.ni K2).1):=by rw[hK3];rfl
 have g3:Zj (Ta sk a.Tx.ni K2).1 K2=K3:=by rw[hK3];exact g3
 rw[←hK3] at u3 v3
 have b3:0≤K3∧K3≤281475211591681:=by omega
 have z3:¬K3<0:=by omega
 clear hK3
 have l4:=t_ s4
 obtain⟨K4,hK4⟩:∃K:Int,K=K3+30*(a.Rx.length:Int):=⟨_,rfl⟩
 have o4:PO 30 a.Rx K3=true:=zw s4 (by omega) (by omega)
 have e4:Nm a.Rx K3=(K4,(vM zJ 30 a.Rx.length K3)):=by rw[hK4];rfl
 have q4:Ry zJ 30 (vM zJ 30 a.Rx.length K3) K3=true:=Qf s4 (by omega) (by omega)
 have g4:Qh (vM zJ 30 a.Rx.length K3) K3=K4:=by rw[hK4];simp only[Qh,qg]
 have b4:0≤K4∧K4≤281475714908161:=by omega
 have z4:¬K4<0:=by omega
 clear hK4
 obtain⟨o5,q5,g5,u5,v5⟩:=nyI s5 (k:=K4) (by omega) (by omega)
 obtain⟨K5,hK5⟩:∃K:Int,K=(Ta sj a.oA K4).2:=⟨_,rfl⟩
 have e5:Nl a.oA K4=(K5,(Ta sj a.oA K4).1):=by rw[hK5];rfl
 have g5:Zi (Ta sj a.oA K4).1 K4=K5:=by rw[hK5];exact g5
 rw[←hK5] at u5 v5
 have b5:0≤K5∧K5≤562950825836545:=by omega
 have z5:¬K5<0:=by omega
 clear hK5
 have l6:=t_ s6
 obtain⟨K6,hK6⟩:∃K:Int,K=K5+6*(a.ou.length:Int):=⟨_,rfl⟩
 have o6:PO 6 a.ou K5=true:=zw s6 (by omega) (by omega)
 have e6:PN a.ou K5=(K6,(vM Qa 6 a.ou.length K5)):=by rw[hK6];rfl
 have q6:Ry Qa 6 (vM Qa 6 a.ou.length K5) K5=true:=Qf s6 (by omega) (by omega)
 have g6:S1 (vM Qa 6 a.ou.length K5) K5=K6:=by rw[hK6];simp only[S1,qg]
 have b6:0≤K6∧K6≤562950926499841:=by omega
 have z6:¬K6<0:=by omega
 clear hK6
 have l7:=t_ s7
 obtain⟨K7,hK7⟩:∃K:Int,K=K6+1*(a.pk.length:Int):=⟨_,rfl⟩
 have o7:PO 1 a.pk K6=true:=zw s7 (by omega) (by omega)
 have e7:Si a.pk K6=(K7,(vM PZ 1 a.pk.length K6)):=by rw[hK7];rfl
 have q7:Ry PZ 1 (vM PZ 1 a.pk.length K6) K6=true:=Qf s7 (by omega) (by omega)
 have g7:U7 (vM PZ 1 a.pk.length K6) K6=K7:=by rw[hK7];simp only[U7,qg]
 have b7:0≤K7∧K7≤562950943277057:=by omega
 have z7:¬K7<0:=by omega
 clear hK7
 have l8:=t_ s8
 obtain⟨K8,hK8⟩:∃K:Int,K=K7+1*(a.Filter.qd.length:Int):=⟨_,rfl⟩
 have o8:PO 1 a.Filter.qd K7=true:=zw s8 (by omega) (by omega)
 have e8:rX a.Filter.qd K7=(K8,(vM rJ 1 a.Filter.qd.length K7)):=by rw[hK8];rfl
 have q8:Ry rJ 1 (vM rJ 1 a.Filter.qd.length K7) K7=true:=Qf s8 (by omega) (by omega)
 have g8:rq (vM rJ 1 a.Filter.qd.length K7) K7=K8:=by rw[hK8];simp only[rq,qg]
 have b8:0≤K8∧K8≤562950960054273:=by omega
 have z8:¬K8<0:=by omega
 clear hK8
 have l9:=t_ s9
 obtain⟨K9,hK9⟩:∃K:Int,K=K8+9*(a.nA.oY.length:Int):=⟨_,rfl⟩
 have o9:PO 9 a.nA.oY K8=true:=zw s9 (by omega) (by omega)
 have e9:PL a.nA.oY K8=(K9,(vM nbf 9 a.nA.oY.length K8)):=by rw[hK9];rfl
 have q9:Ry nbf 9 (vM nbf 9 a.nA.oY.length K8) K8=true:=Qf s9 (by omega) (by omega)
 have g9:RM (vM nbf 9 a.nA.oY.length K8) K8=K9:=by rw[hK9];simp only[RM,qg]
 have b9:0≤K9∧K9≤562951111049217:=by omega
 have z9:¬K9<0:=by omega
 clear hK9
 have l10:=t_ s10
 obtain⟨K10,nzK⟩:∃K:Int,K=K9+7*(a.nA.Table.nI.length:Int):=⟨_,rfl⟩
 have o10:PO 7 a.nA.Table.nI K9=true:=zw s10 (by omega) (by omega)
 have e10:Sj a.nA.Table.nI K9=(K10,(vM nbg 7 a.nA.Table.nI.length K9)):=by rw[nzK];rfl
 have q10:Ry nbg 7 (vM nbg 7 a.nA.Table.nI.length K9) K9=true:=Qf s10 (by omega) (by omega)
 have g10:U8 (vM nbg 7 a.nA.Table.nI.length K9) K9=K10:=by rw[nzK];simp only[U8,qg]
 have b10:0≤K10∧K10≤562951228489729:=by omega
 have z10:¬K10<0:=by omega
 clear nzK
 have l11:=t_ s11
 obtain⟨K11,nzL⟩:∃K:Int,K=K10+1*(a.nA.oO.Table.length:Int):=⟨_,rfl⟩
 have o11:PO 1 a.nA.oO.Table K10=true:=zw s11 (by omega) (by omega)
 have e11:rX a.nA.oO.Table K10=(K11,(vM rJ 1 a.nA.oO.Table.length K10)):=by rw[nzL];rfl
 have q11:Ry rJ 1 (vM rJ 1 a.nA.oO.Table.length K10) K10=true:=Qf s11 (by omega) (by omega)
 have g11:rq (vM rJ 1 a.nA.oO.Table.length K10) K10=K11:=by rw[nzL];simp only[rq,qg]
 have b11:0≤K11∧K11≤562951245266945:=by omega
 have z11:¬K11<0:=by omega
 clear nzL
 have l12:=t_ s12
 obtain⟨K12,nzM⟩:∃K:Int,K=K11+8*(a.p6.length:Int):=⟨_,rfl⟩
 have o12:PO 8 a.p6 K11=true:=zw s12 (by omega) (by omega)
 have e12:PM a.p6 K11=(K12,(vM P_ 8 a.p6.length K11)):=by rw[nzM];rfl
 have q12:Ry P_ 8 (vM P_ 8 a.p6.length K11) K11=true:=Qf s12 (by omega) (by omega)
 have g12:SZ (vM P_ 8 a.p6.length K11) K11=K12:=by rw[nzM];simp only[SZ,qg]
 have b12:0≤K12∧K12≤562951379484673:=by omega
 have z12:¬K12<0:=by omega
 clear nzM
 have l13:=t_ s13
 obtain⟨K13,nzN⟩:∃K:Int,K=K12+1*(a.vN.length:Int):=⟨_,rfl⟩
 have o13:PO 1 a.vN K12=true:=zw s13 (by omega) (by omega)
 have e13:uZ a.vN K12=(K13,(vM sG 1 a.vN.length K12)):=by rw[nzN];rfl
 have q13:Ry sG 1 (vM sG 1 a.vN.length K12) K12=true:=Qf s13 (by omega) (by omega)
 have g13:uW (vM sG 1 a.vN.length K12) K12=K13:=by rw[nzN];simp only[uW,qg]
 have b13:0≤K13∧K13≤562951396261889:=by omega
 have z13:¬K13<0:=by omega
 clear nzN
 have l14:=t_ s14
 obtain⟨K14,nzO⟩:∃K:Int,K=K13+1*(a.oP.length:Int):=⟨_,rfl⟩
 have o14:PO 1 a.oP K13=true:=zw s14 (by omega) (by omega)
 have e14:rX a.oP K13=(K14,(vM rJ 1 a.oP.length K13)):=by rw[nzO];rfl
 have q14:Ry rJ 1 (vM rJ 1 a.oP.length K13) K13=true:=Qf s14 (by omega) (by omega)
 have g14:rq (vM rJ 1 a.oP.length K13) K13=K14:=by rw[nzO];simp only[rq,qg]
 have b14:0≤K14∧K14≤562951413039105:=by omega
 have z14:¬K14<0:=by omega
 clear nzO
 have l15:=t_ s15
 obtain⟨K15,nzP⟩:∃K:Int,K=K14+1*(a.pU.length:Int):=⟨_,rfl⟩
 have o15:PO 1 a.pU K14=true:=zw s15 (by omega) (by omega)
 have e15:rX a.pU K14=(K15,(vM rJ 1 a.pU.length K14)):=by rw[nzP];rfl
 have q15:Ry rJ 1 (vM rJ 1 a.pU.length K14) K14=true:=Qf s15 (by omega) (by omega)
 have g15:rq (vM rJ 1 a.pU.length K14) K14=K15:=by rw[nzP];simp only[rq,qg]
 have b15:0≤K15∧K15≤562951429816321:=by omega
 have z15:¬K15<0:=by omega
 clear nzP
 refine⟨K15,(vM sG 1 a.oB.nV.length 1),(vM zI 4 a.Maps.length K0),(vM rJ 1 a.Tx.n7.py.length K1),(Ta sk a.Tx.ni K2).1,(vM zJ 30 a.Rx.length K3),(Ta sj a.oA K4).1,(vM Qa 6 a.ou.length K5),(vM PZ 1 a.pk.length K6),(vM rJ 1 a.Filter.qd.length K7),(vM nbf 9 a.nA.oY.length K8),(vM nbg 7 a.nA.Table.nI.length K9),(vM rJ 1 a.nA.oO.Table.length K10),(vM P_ 8 a.p6.length K11),(vM sG 1 a.vN.length K12),(vM rJ 1 a.oP.length K13),(vM rJ 1 a.pU.length K14), ?_, ?_,by omega, ?_, ?_⟩
 ·simp only[Ok,xW,wD,S9,QW,yp,Oj,Py,wC,xp,wS,uq,Ol,Pz,wE,zu,wG,vu,yr,th,uO,zt,oL,yo,Option.getD_some,e0,e1,e2,e3,e4,e5,e6,e7,e8,e9,e10,e11,e12,e13,e14,e15,o0,o1,o2,o3,o4,o5,o6,o7,o8,o9,o10,o11,o12,o13,o14,o15,nc,nn,cond_true]
 ·simp only[Ok,xW,wD,S9,QW,yp,Oj,Py,wC,xp,wS,uq,Ol,Pz,wE,zu,wG,vu,yr,th,uO,zt,oL,yo,e0,e1,e2,e3,e4,e5,e6,e7,e8,e9,e10,e11,e12,e13,e14,e15,o0,o1,o2,o3,o4,o5,o6,o7,o8,o9,o10,o11,o12,o13,o14,o15,nc,nn,cond_true,Option.getD_some]
 ·simp only[N0,Pn,wA,SY,Vn,yn,NY,Vl,wz,xg,NZ,uo,N3,Vo,wB,zj,S0,vt,yh,Qi,uN,PI,Zh,ym,Option.getD_some,g0,g1,g2,g3,g4,g5,g6,g7,g8,g9,g10,g11,g12,g13,g14,g15,q0,q1,q2,q3,q4,q5,q6,q7,q8,q9,q10,q11,q12,q13,q14,q15,z0,z1,z2,z3,z4,z5,z6,z7,z8,z9,z10,z11,z12,z13,z14,z15,decide_false,cond_false,nc,nn,cond_true]
 ·simp only[N0,Pn,wA,SY,Vn,yn,NY,Vl,wz,xg,NZ,uo,N3,Vo,wB,zj,S0,vt,yh,Qi,uN,PI,Zh,ym,g0,g1,g2,g3,g4,g5,g6,g7,g8,g9,g10,g11,g12,g13,g14,g15,q0,q1,q2,q3,q4,q5,q6,q7,q8,q9,q10,q11,q12,q13,q14,q15,z0,z1,z2,z3,z4,z5,z6,z7,z8,z9,z10,z11,z12,z13,z14,z15,decide_false,cond_false,nc,nn,cond_true,Option.getD_some]
theorem Xh {a:Rows} {left:Int} (h1:0≤left) (h2:left≤1048576) (ha:a.length≤9223372036854775807) (h0:0≤oe a left):a.length≤1048576:=by
 obtain⟨e,hl⟩:=ngO h1 h2 ha
 simp only[oe,e] at h0
 by_cases hn:left - len a<0
 ·simp [hn] at h0
 ·simp only[len] at hn;omega
theorem njM {a:ng} {left:Int} (vQ:jI ng.ct a.enc) (h1:0≤left) (h2:left≤1048576) (h0:0≤n8 a left):a.ni.length≤1048576:=by
 simp only[n8,xn,id] at h0
 by_cases c0:qF a.n7 left<0
 ·simp only[c0,decide_true,cond_true] at h0;omega
 simp only[c0,decide_false,cond_false] at h0
 have k0:=QP (ng.nrS vQ) h1 h2 (Int.not_lt.1 c0)
 by_cases c1:tc a.ni (qF a.n7 left)<0
 ·simp only[c1,decide_true,cond_true] at h0;omega
 simp only[c1,decide_false,cond_false] at h0
 have k1:=TS (ng.zF vQ) (Int.not_lt.1 c0) k0.1 (Int.not_lt.1 c1)
 have n1:=na8 (Int.not_lt.1 c0) k0.1 (oy (ng.zF vQ)).1 (Int.not_lt.1 c1)
 exact n1
theorem nqt {a:nx} {left:Int} (vQ:jI nx.ct a.enc) (h1:0≤left) (h2:left≤1048576) (h0:0≤ur a left):a.Maps.length≤1048576∧a.Tx.ni.length≤1048576∧a.Rx.length≤1048576∧a.oA.length≤1048576∧a.ou.length≤1048576∧a.pk.length≤1048576∧a.p6.length≤1048576∧a.vN.length≤1048576∧a.oP.length≤1048576∧a.pU.length≤1048576:=by
 simp only[ur,Of,id] at h0
 by_cases c0:oa a.oB left<0
 ·simp only[c0,decide_true,cond_true] at h0;omega
 simp only[c0,decide_false,cond_false] at h0
 have k0:=Sa (nx.noH vQ) h1 h2 (Int.not_lt.1 c0)
 by_cases c1:oe a.Maps (oa a.oB left)<0
 ·simp only[c1,decide_true,cond_true] at h0;omega
 simp only[c1,decide_false,cond_false] at h0
 have k1:=sM (Int.not_lt.1 c0) k0.1 (oy (nx.nrR vQ)).1 (Int.not_lt.1 c1)
 have n1:=Xh (Int.not_lt.1 c0) k0.1 (oy (nx.nrR vQ)).1 (Int.not_lt.1 c1)
 by_cases c2:n8 a.Tx (oe a.Maps (oa a.oB left))<0
 ·simp only[c2,decide_true,cond_true] at h0;omega
 simp only[c2,decide_false,cond_false] at h0
 have k2:=Yf (nx.nxZ vQ) (Int.not_lt.1 c1) k1.1 (Int.not_lt.1 c2)
 have nAh:=njM (nx.nxZ vQ) (Int.not_lt.1 c1) k1.1 (Int.not_lt.1 c2)
 by_cases c3:oF a.Rx (n8 a.Tx (oe a.Maps (oa a.oB left)))<0
 ·simp only[c3,decide_true,cond_true] at h0;omega
 simp only[c3,decide_false,cond_false] at h0
 have k3:=Ww (nx.nyY vQ) (Int.not_lt.1 c2) k2.1 (Int.not_lt.1 c3)
 have n3:=na8 (Int.not_lt.1 c2) k2.1 (oy (nx.nyY vQ)).1 (Int.not_lt.1 c3)
 by_cases c4:pD a.oA (oF a.Rx (n8 a.Tx (oe a.Maps (oa a.oB left))))<0
 ·simp only[c4,decide_true,cond_true] at h0;omega
 simp only[c4,decide_false,cond_false] at h0
 have k4:=ndj (nx.ngT vQ) (Int.not_lt.1 c3) k3.1 (Int.not_lt.1 c4)
 have n4:=na8 (Int.not_lt.1 c3) k3.1 (oy (nx.ngT vQ)).1 (Int.not_lt.1 c4)
 by_cases c5:oe a.ou (pD a.oA (oF a.Rx (n8 a.Tx (oe a.Maps (oa a.oB left)))))<0
 ·simp only[c5,decide_true,cond_true] at h0;omega
 simp only[c5,decide_false,cond_false] at h0
 have k5:=sM (Int.not_lt.1 c4) k4.1 (oy (nx.nkf vQ)).1 (Int.not_lt.1 c5)
 have n5:=Xh (Int.not_lt.1 c4) k4.1 (oy (nx.nkf vQ)).1 (Int.not_lt.1 c5)
 by_cases c6:oe a.pk (oe a.ou (pD a.oA (oF a.Rx (n8 a.Tx (oe a.Maps (oa a.oB left))))))<0
 ·simp only[c6,decide_true,cond_true] at h0;omega
 simp only[c6,decide_false,cond_false] at h0
 have k6:=sM (Int.not_lt.1 c5) k5.1 (oy (nx.nkc vQ)).1 (Int.not_lt.1 c6)
 have n6:=Xh (Int.not_lt.1 c5) k5.1 (oy (nx.nkc vQ)).1 (Int.not_lt.1 c6)
 by_cases c7:qe a.Filter (oe a.pk (oe a.ou (pD a.oA (oF a.Rx (n8 a.Tx (oe a.Maps (oa a.oB left)))))))<0
 ·simp only[c7,decide_true,cond_true] at h0;omega
 simp only[c7,decide_false,cond_false] at h0
 have k7:=nar (nx.nvL vQ) (Int.not_lt.1 c6) k6.1 (Int.not_lt.1 c7)
 by_cases c8:pZ a.nA (qe a.Filter (oe a.pk (oe a.ou (pD a.oA (oF a.Rx (n8 a.Tx (oe a.Maps (oa a.oB left))))))))<0
 ·simp only[c8,decide_true,cond_true] at h0;omega
 simp only[c8,decide_false,cond_false] at h0
 have k8:=Wz (nx.no_ vQ) (Int.not_lt.1 c7) k7.1 (Int.not_lt.1 c8)
 by_cases c9:qG a.p6 (pZ a.nA (qe a.Filter (oe a.pk (oe a.ou (pD a.oA (oF a.Rx (n8 a.Tx (oe a.Maps (oa a.oB left)))))))))<0
 ·simp only[c9,decide_true,cond_true] at h0;omega
 simp only[c9,decide_false,cond_false] at h0
 have k9:=Ye (nx.nke vQ) (Int.not_lt.1 c8) k8.1 (Int.not_lt.1 c9)
 have n9:=na8 (Int.not_lt.1 c8) k8.1 (oy (nx.nke vQ)).1 (Int.not_lt.1 c9)
 by_cases c10:qp a.vN (qG a.p6 (pZ a.nA (qe a.Filter (oe a.pk (oe a.ou (pD a.oA (oF a.Rx (n8 a.Tx (oe a.Maps (oa a.oB left))))))))))<0
 ·simp only[c10,decide_true,cond_true] at h0;omega
 simp only[c10,decide_false,cond_false] at h0
 have k10:=QT (nx.nwB vQ) (Int.not_lt.1 c9) k9.1 (Int.not_lt.1 c10)
 have n10:=na8 (Int.not_lt.1 c9) k9.1 (oy (nx.nwB vQ)).1 (Int.not_lt.1 c10)
 by_cases c11:oe a.oP (qp a.vN (qG a.p6 (pZ a.nA (qe a.Filter (oe a.pk (oe a.ou (pD a.oA (oF a.Rx (n8 a.Tx (oe a.Maps (oa a.oB left)))))))))))<0
 ·simp only[c11,decide_true,cond_true] at h0;omega
 simp only[c11,decide_false,cond_false] at h0
 have k11:=sM (Int.not_lt.1 c10) k10.1 (oy (nx.nbQ vQ)).1 (Int.not_lt.1 c11)
 have n11:=Xh (Int.not_lt.1 c10) k10.1 (oy (nx.nbQ vQ)).1 (Int.not_lt.1 c11)
 by_cases c12:oe a.pU (oe a.oP (qp a.vN (qG a.p6 (pZ a.nA (qe a.Filter (oe a.pk (oe a.ou (pD a.oA (oF a.Rx (n8 a.Tx (oe a.Maps (oa a.oB left))))))))))))<0
 ·simp only[c12,decide_true,cond_true] at h0;omega
 simp only[c12,decide_false,cond_false] at h0
 have k12:=sM (Int.not_lt.1 c11) k11.1 (oy (nx.ngU vQ)).1 (Int.not_lt.1 c12)
 have n12:=Xh (Int.not_lt.1 c11) k11.1 (oy (nx.ngU vQ)).1 (Int.not_lt.1 c12)
 exact⟨n1,nAh,n3,n4,n5,n6,n9,n10,n11,n12⟩
theorem foldl_push (q:List DC→List DC):∀(l o:Rows),l.foldl (fun o r=>o++[q r]) o=o++l.map q
 | [],o=>by simp
 | r::l,o=>by rw[List.foldl_cons,foldl_push q l,List.map_cons,List.append_assoc];rfl
def U5 (k_:Bool→α) (x:Rows) (nZ q_5 q_6 q_7:Int) (q_8:Rows) (ov:Int→Int→Rows→α) (left om:Int) (all:Rows):α:=
 bif decide (om<nZ) then
  bif DF true (idx om x) then
   bif bif decide (rI (nth x (Int.toNat om)) 1<1) then true else bif decide (left<rI (nth x (Int.toNat om)) 1) then true else !(nf (rI (nth x (Int.toNat om)) 0) 0 65535) then k_ false
   else bif DF true (oT 8 all (rR (nth x (Int.toNat om)) 2)) then
     ov (nK (left - (rI (nth x (Int.toNat om)) 1))) (nK (om+1)) (all++(rR (nth x (Int.toNat om)) 2))
    else jK
  else jK
 else bif DF true (Qc (⟨q_5,q_6,q_7,q_8⟩:nE) all) then
   k_ ((pK (⟨q_5,q_6,q_7,q_8⟩:nE) all).2)
  else jK
def xO (k_:Bool→α) (N:Nat) (x:Rows) (nZ q_5 q_6 q_7:Int) (q_8:Rows) (m_:Nat):Int→Int→Rows→α:=
 Nat.rec (motive:=fun _=>Int→Int→Rows→α) (fun _ _ _=>jK) (fun _ ov=>U5 jK k_ x nZ q_5 q_6 q_7 q_8 ov) m_
theorem neY (k_:Bool→α) (N:Nat) (x:Rows) (nZ q_5 q_6 q_7:Int) (q_8:Rows) (m_:Nat):xO jK k_ N x nZ q_5 q_6 q_7 q_8 (m_+1)=U5 jK k_ x nZ q_5 q_6 q_7 q_8 (xO jK k_ N x nZ q_5 q_6 q_7 q_8 m_):=rfl
def neZ {α:Type} (jK:α) (k_:Bool→α) (l0:Rows→Int→Int→Int→Int→Rows→Int→Int→Rows→α) (q:ng):α:=
 bif bif !(pJ q.Ring) then true else bif !(sg q.n7) then true else !(nf q.Next 0 65535) then k_ false
 else l0 q.ni (len q.ni) q.n7.oR q.n7.nR q.n7.Count q.n7.py q.Ring.nR 0 []
def noW (k_:Bool→α) (N:Nat) (q:ng):α:=neZ jK k_ (fun x nZ q_5 q_6 q_7 q_8=>xO jK k_ N x nZ q_5 q_6 q_7 q_8 N) q
theorem PG {r:ny} (h:pJ r=true):2≤r.nR∧r.nR≤16:=by
 have hs:vx r.nR=true:=by
  cases hs:vx r.nR
  ·unfold pJ yw at h
   rw[hs] at h
   revert h
   cases nf r.oR 0 130944<;>simp
  ·rfl
 rcases WN hs with h | h | h | h<;>omega
def nd6:Rows→Nat
 | []=>0
 | r::rs=>(rR r 2).length+nd6 rs
def Sv:Rows→Rows
 | []=>[]
 | r::rs=>rR r 2++Sv rs
def Tk:Rows→Int
 | []=>0
 | r::rs=>rI r 1+Tk rs
def NX (q:ng):Bool:=decide (q.n7.py.length≤1048576) && (sm q.ni && decide (nd6 q.ni≤1048576))
theorem nxX {q:ng} (h:NX q=true):sm q.n7.py=true∧q.ni.length≤16777216∧nd6 q.ni≤16777216:=by
 simp only[NX,Bool.and_eq_true,decide_eq_true_eq] at h
 exact⟨decide_eq_true (by omega),t_ h.2.1,by omega⟩
def xq (n:Int) (r:List DC):Bool:=bif nf (rI r 1) 1 n then nf (rI r 0) 0 65535 else false
def To (q:ng):Bool:=bif bif !(pJ q.Ring) then true else bif !(sg q.n7) then true else !(nf q.Next 0 65535) then false
 else bif q.ni.all (xq q.Ring.nR) then bif (pK q.n7 (Sv q.ni)).2 then decide (Tk q.ni≤q.Ring.nR) else false else false
theorem drop_cons {l:Rows} {i:Nat} (h:i<l.length):l.drop i=nth l i::l.drop (i+1):=by
 rw[List.drop_eq_getElem_cons h]
 simp [nth,List.getD_eq_getElem?_getD,h]
theorem zH {l:Rows} {i:Nat} (h:i<l.length):nd6 (l.drop i)=(rR (nth l i) 2).length+nd6 (l.drop (i+1)):=by
 rw[drop_cons h]
 rfl
def txP (n:Int) (r:List DC) (_:Int×Rows):Bool:= !(xq n r)
def txF (r:List DC) (s:Int×Rows):Int×Rows:=(s.1+rI r 1,s.2++rR r 2)
def txQ (r:List DC) (s:Int×Rows):Bool:=bif decide (rI r 1<1) then true else bif decide (s.1<rI r 1) then true else !(nf (rI r 0) 0 65535)
def txG (r:List DC) (s:Int×Rows):Int×Rows:=(s.1 - rI r 1,s.2++rR r 2)
theorem nyU {α:Type} (n:Int) (x:α) (fin:Int×Rows→α):∀(l:Rows) (s:Int×Rows),PR (txP n) txF x fin l s=bif l.all (xq n) then fin (s.1+Tk l,s.2++Sv l) else x
 | [],s=>by simp [PR,Tk,Sv]
 | r::rs,s=>by
  simp only[PR,txP,List.all_cons]
  cases hs:xq n r
  ·rfl
  ·rw[nyU n x fin rs]
   simp only[Bool.not_true,cond_false,Bool.true_and,txF,Tk,Sv,Int.add_assoc,List.append_assoc]
theorem Sn {n:Int} {r:List DC} :xq n r=true↔(1≤rI r 1∧rI r 1≤n)∧nf (rI r 0) 0 65535=true:=by
 unfold xq
 cases h:nf (rI r 1) 1 n
 ·constructor
  ·intro h;cases h
  ·intro h'
   have:nf (rI r 1) 1 n=true:=n0.2 h'.1
   rw[h] at this
   cases this
 ·have:=n0.1 h
  simp only[cond_true]
  exact⟨fun h'=>⟨this,h'⟩,fun h'=>h'.2⟩
theorem nmv {n:Int} :∀ {l:Rows},l.all (xq n)=true→0≤Tk l
 | [],_=>by simp [Tk]
 | r::rs,h=>by
  simp only[List.all_cons,Bool.and_eq_true] at h
  have:=nmv h.2
  have:=(Sn.1 h.1).1
  simp only[Tk]
  omega
theorem nxW {α:Type} (n:Int) (x:α) (fin:Rows→α):∀(l:Rows) (s:Int×Rows),s.1≤n→0≤s.1→PR txQ txG x (fun s=>fin s.2) l s=bif l.all (xq n) then bif decide (Tk l≤s.1) then fin (s.2++Sv l) else x else x
 | [],s,h1,h2=>by
  have:decide (Tk []≤s.1)=true:=decide_eq_true h2
  simp only[PR,List.all_nil,cond_true,Sv,List.append_nil,this]
 | r::rs,s,h1,h2=>by
  simp only[PR,List.all_cons]
  by_cases a1:rI r 1<1
  ·have e:xq n r=false:=by
    cases hs:xq n r
    ·rfl
    ·have:=(Sn.1 hs).1;omega
   rw[e]
   simp only[txQ,decide_eq_true a1,cond_true,Bool.false_and,cond_false]
  ·cases hb:nf (rI r 0) 0 65535
   ·have e:xq n r=false:=by
     cases hs:xq n r
     ·rfl
     ·have:=(Sn.1 hs).2;rw[hb] at this;cases this
    rw[e]
    have:txQ r s=true:=by
     simp only[txQ,decide_eq_false a1,hb,cond_false,Bool.not_false]
     cases decide (s.1<rI r 1)<;>rfl
    rw[this]
    rfl
   ·by_cases a2:s.1<rI r 1
    ·have:txQ r s=true:=by simp only[txQ,decide_eq_false a1,decide_eq_true a2,cond_false,cond_true]
     rw[this,cond_true]
     cases hr:(xq n r && rs.all (xq n))
     ·rfl
     ·simp only[Bool.and_eq_true] at hr
      have:=nmv hr.2
      rw[cond_true,decide_eq_false (by simp only[Tk];omega)]
      rfl
    ·have:txQ r s=false:=by simp only[txQ,decide_eq_false a1,decide_eq_false a2,hb,cond_false,Bool.not_true]
     have e:xq n r=true:=Sn.2 ⟨⟨by omega,by omega⟩,hb⟩
     rw[this,cond_false,e,Bool.true_and]
     have ih:=nxW n x fin rs (txG r s) (by simp only[txG];omega) (by simp only[txG];omega)
     rw[ih]
     have ed:decide (Tk rs≤(txG r s).1)=decide (Tk (r::rs)≤s.1):=by
      have:Tk rs≤(txG r s).1↔Tk (r::rs)≤s.1:=by simp only[txG,Tk];omega
      exact decide_eq_decide.2 this
     rw[ed]
     simp only[txG,Sv,List.append_assoc]
theorem nwT (k_:Bool→α) (q:ng) (h_q:jI ng.ct q.enc) (aF:NX q=true):∃N,noW jK k_ N q=k_ (To q):=by
 have hq:NX q=true:=aF
 obtain⟨hf,hwn,hbn⟩:=nxX hq
 obtain⟨hl,hw⟩:=oy (ng.zF h_q)
 refine⟨q.ni.length+1, ?_⟩
 unfold noW neZ To
 refine pj (fun _=>rfl) (fun hg=> ?_)
 have hn:2≤q.Ring.nR∧q.Ring.nR≤16:=by
  cases h1:pJ q.Ring
  ·rw[h1] at hg;cases hg
  exact PG h1
 have nzR:∀all:Rows,all.length≤16777216→Qc q.n7 all=true:=by
  intro all h
  have:=t_ hf
  simp only[Qc,hf,Bool.true_and,decide_eq_true_eq]
  omega
 have key:xO jK k_ (q.ni.length+1) q.ni (len q.ni) q.n7.oR q.n7.nR q.n7.Count q.n7.py (q.ni.length+1) q.Ring.nR 0 []=PR txQ txG (k_ false) (fun s=>k_ (pK q.n7 s.2).2) q.ni (q.Ring.nR,[]):=by
  refine naS q.ni (fun n i (s:Int×Rows)=>xO jK k_ (q.ni.length+1) q.ni (len q.ni) q.n7.oR q.n7.nR q.n7.Count q.n7.py n s.1 i s.2) txQ txG (k_ false) (fun s=>k_ (pK q.n7 s.2).2) (fun i s=>0≤s.1∧s.1≤16∧s.2.length+nd6 (q.ni.drop i)≤16777216) ?_ ?_ ?_ (q.Ring.nR,[]) ⟨by omega,by omega,by simpa using hbn⟩
  ·intro i s h hi hp
   have hb:=zH h
   obtain⟨i1,i2,i3⟩:=hi
   have h1:¬rI (nth q.ni i) 1<1:=by
    intro hc;simp only[txQ,decide_eq_true hc,cond_true] at hp;cases hp
   have h2:¬s.1<rI (nth q.ni i) 1:=by
    intro hc;simp only[txQ,decide_eq_false h1,decide_eq_true hc,cond_true,cond_false] at hp;cases hp
   refine⟨by simp only[txG];omega,by simp only[txG];omega, ?_⟩
   simp only[txG,List.length_append]
   omega
  ·intro n i s h hi
   obtain⟨i1,i2,i3⟩:=hi
   have hb:=zH h
   show xO jK k_ (q.ni.length+1) q.ni (len q.ni) q.n7.oR q.n7.nR q.n7.Count q.n7.py (n+1) s.1 (i:Int) s.2=_
   rw[neY]
   have hr:oT 8 s.2 (rR (nth q.ni i) 2)=true:=qY (by omega) (by omega)
   simp only[U5,oV h,nT h,n_ h hl,Int.toNat_natCast,nc,nn,cond_true,hr]
   refine cond_congr rfl (fun _=>rfl) (fun hp=> ?_)
   have h1:¬rI (nth q.ni i) 1<1:=by
    intro hc;simp only[decide_eq_true hc,cond_true] at hp;cases hp
   have h2:¬s.1<rI (nth q.ni i) 1:=by
    intro hc;simp only[decide_eq_false h1,decide_eq_true hc,cond_true,cond_false] at hp;cases hp
   rw[nF (n:=s.1 - rI (nth q.ni i) 1) (by omega) (by omega)]
   rfl
  ·intro n s hi
   obtain⟨i1,i2,i3⟩:=hi
   show xO jK k_ (q.ni.length+1) q.ni (len q.ni) q.n7.oR q.n7.nR q.n7.Count q.n7.py (n+1) s.1 (q.ni.length:Int) s.2=_
   rw[neY]
   have hg:Qc (⟨q.n7.oR,q.n7.nR,q.n7.Count,q.n7.py⟩:nE) s.2=true:=nzR s.2 (by omega)
   simp only[U5,nQ,cond_false,hg,nc,cond_true]
 refine key.trans ?_
 refine (nxW q.Ring.nR (k_ false) (fun all=>k_ (pK q.n7 all).2) q.ni (q.Ring.nR,[]) (by simp) (by show 0≤q.Ring.nR;omega)).trans ?_
 simp only[List.nil_append]
 cases q.ni.all (xq q.Ring.nR)
 ·rfl
 ·cases hd:decide (Tk q.ni≤q.Ring.nR)
  ·simp only[cond_true,cond_false]
   cases (pK q.n7 (Sv q.ni)).2<;>rfl
  ·simp only[cond_true]
   cases (pK q.n7 (Sv q.ni)).2<;>rfl
def U6 (k_:Bool→α) (q_2 q_5 q_6 q_7:Int) (q_8 yg:Rows) (ov:Int→Int→Rows→α) (bN k:Int) (all:Rows):α:=
 bif decide (k<len yg) then
  bif DF true (idx k yg) then
   bif bif !(nf (rI (nth yg (Int.toNat k)) 1) 1 q_2) then true else !(nf (rI (nth yg (Int.toNat k)) 0) 0 65535) then k_ false
   else bif DF true (oT 8 all (rR (nth yg (Int.toNat k)) 2)) then
     ov (nK (bN+(rI (nth yg (Int.toNat k)) 1))) (nK (k+1)) (all++(rR (nth yg (Int.toNat k)) 2))
    else jK
  else jK
 else bif DF true (Qc (⟨q_5,q_6,q_7,q_8⟩:nE) all) then
   k_ (bif (pK (⟨q_5,q_6,q_7,q_8⟩:nE) all).2 then decide (bN≤q_2) else false)
  else jK
def yd (k_:Bool→α) (N:Nat) (q_2 q_5 q_6 q_7:Int) (q_8 yg:Rows) (m_:Nat):Int→Int→Rows→α:=
 Nat.rec (motive:=fun _=>Int→Int→Rows→α) (fun _ _ _=>jK) (fun _ ov=>U6 jK k_ q_2 q_5 q_6 q_7 q_8 yg ov) m_
theorem ngg (k_:Bool→α) (N:Nat) (q_2 q_5 q_6 q_7:Int) (q_8 yg:Rows) (m_:Nat):yd jK k_ N q_2 q_5 q_6 q_7 q_8 yg (m_+1)=U6 jK k_ q_2 q_5 q_6 q_7 q_8 yg (yd jK k_ N q_2 q_5 q_6 q_7 q_8 yg m_):=rfl
def ngh {α:Type} (jK:α) (k_:Bool→α) (l0:Int→Int→Int→Int→Rows→Rows→Int→Int→Rows→α) (q:ng):α:=
 bif bif !(pJ q.Ring) then true else bif !(sg q.n7) then true else !(nf q.Next 0 65535) then k_ false
 else l0 q.Ring.nR q.n7.oR q.n7.nR q.n7.Count q.n7.py q.ni 0 0 []
def no6 (k_:Bool→α) (N:Nat) (q:ng):α:=ngh jK k_ (fun q_2 q_5 q_6 q_7 q_8 yg=>yd jK k_ N q_2 q_5 q_6 q_7 q_8 yg N) q
theorem nw7 (k_:Bool→α) (q:ng) (h_q:jI ng.ct q.enc) (aF:NX q=true):∃N,no6 jK k_ N q=k_ (To q):=by
 have hq:NX q=true:=aF
 obtain⟨hf,hwn,hbn⟩:=nxX hq
 obtain⟨hl,hw⟩:=oy (ng.zF h_q)
 refine⟨q.ni.length+1, ?_⟩
 unfold no6 ngh To
 refine pj (fun _=>rfl) (fun hg=> ?_)
 have hn:2≤q.Ring.nR∧q.Ring.nR≤16:=by
  cases h1:pJ q.Ring
  ·rw[h1] at hg;cases hg
  exact PG h1
 have nzR:∀all:Rows,all.length≤16777216→Qc q.n7 all=true:=by
  intro all h
  have:=t_ hf
  simp only[Qc,hf,Bool.true_and,decide_eq_true_eq]
  omega
 have key:yd jK k_ (q.ni.length+1) q.Ring.nR q.n7.oR q.n7.nR q.n7.Count q.n7.py q.ni (q.ni.length+1) 0 0 []=PR (txP q.Ring.nR) txF (k_ false) (fun s=>k_ (bif (pK q.n7 s.2).2 then decide (s.1≤q.Ring.nR) else false)) q.ni (0,[]):=by
  refine naS q.ni (fun n i (s:Int×Rows)=>yd jK k_ (q.ni.length+1) q.Ring.nR q.n7.oR q.n7.nR q.n7.Count q.n7.py q.ni n s.1 i s.2) (txP q.Ring.nR) txF (k_ false) (fun s=>k_ (bif (pK q.n7 s.2).2 then decide (s.1≤q.Ring.nR) else false)) (fun i s=>0≤s.1∧s.1≤16*(i:Int)∧s.2.length+nd6 (q.ni.drop i)≤16777216) ?_ ?_ ?_ (0,[]) ⟨by simp,by simp,by simpa using hbn⟩
  ·intro i s h hi hp
   have hb:=zH h
   obtain⟨i1,i2,i3⟩:=hi
   have h1:xq q.Ring.nR (nth q.ni i)=true:=by simpa [txP] using hp
   have h2:=(Sn.1 h1).1
   refine⟨by simp only[txF];omega,by simp only[txF];omega, ?_⟩
   simp only[txF,List.length_append]
   omega
  ·intro n i s h hi
   obtain⟨i1,i2,i3⟩:=hi
   have hb:=zH h
   show yd jK k_ (q.ni.length+1) q.Ring.nR q.n7.oR q.n7.nR q.n7.Count q.n7.py q.ni (n+1) s.1 (i:Int) s.2=_
   rw[ngg]
   have hr:oT 8 s.2 (rR (nth q.ni i) 2)=true:=qY (by omega) (by omega)
   simp only[U6,oV h,nT h,n_ h hl,Int.toNat_natCast,nc,nn,cond_true,hr,txP]
   have hc:(bif !(nf (rI (nth q.ni i) 1) 1 q.Ring.nR) then true else !(nf (rI (nth q.ni i) 0) 0 65535))= !(xq q.Ring.nR (nth q.ni i)):=by
    unfold xq
    cases nf (rI (nth q.ni i) 1) 1 q.Ring.nR<;>rfl
   rw[hc]
   refine cond_congr rfl (fun _=>rfl) (fun hp=> ?_)
   have h1:xq q.Ring.nR (nth q.ni i)=true:=by simpa using hp
   have h2:=(Sn.1 h1).1
   rw[nF (n:=s.1+rI (nth q.ni i) 1) (by omega) (by omega)]
   rfl
  ·intro n s hi
   obtain⟨i1,i2,i3⟩:=hi
   show yd jK k_ (q.ni.length+1) q.Ring.nR q.n7.oR q.n7.nR q.n7.Count q.n7.py q.ni (n+1) s.1 (q.ni.length:Int) s.2=_
   rw[ngg]
   have hg:Qc (⟨q.n7.oR,q.n7.nR,q.n7.Count,q.n7.py⟩:nE) s.2=true:=nzR s.2 (by omega)
   simp only[U6,nQ,cond_false,hg,nc,cond_true]
 refine key.trans ?_
 refine (nyU q.Ring.nR (k_ false) (fun s=>k_ (bif (pK q.n7 s.2).2 then decide (s.1≤q.Ring.nR) else false)) q.ni (0,[])).trans ?_
 simp only[List.nil_append,Int.zero_add]
 exact Jk rfl rfl
def RN (k_:Int→α) (x:Int) (om:Rows) (ov:Int→Int→α) (n nZ:Int):α:=
 bif decide (nZ<x) then
  bif DF (DF true (idx nZ om)) (inl (Int.toNat nZ) om) then
   bif DF true (PQ (rI (nth om (Int.toNat nZ)) 0) 8) then
    ov (nK (n+(nbz (rI (nth om (Int.toNat nZ)) 0) 8))) (nK (nZ+1))
   else jK
  else jK
 else k_ (Int.tmod n 8)
def tU (k_:Int→α) (N:Nat) (x:Int) (om:Rows) (m_:Nat):Int→Int→α:=
 Nat.rec (motive:=fun _=>Int→Int→α) (fun _ _=>jK) (fun _ ov=>RN jK k_ x om ov) m_
theorem Vw (k_:Int→α) (N:Nat) (x:Int) (om:Rows) (m_:Nat):tU jK k_ N x om (m_+1)=RN jK k_ x om (tU jK k_ N x om m_):=rfl
def Tv {α:Type} (jK:α) (k_:Int→α) (l0:Int→Rows→Int→Int→α) (f:nS):α:=
 l0 5 ([[.int f.Kind],[.int f.qC],[.int f.rl],[.int f.oX],[.int f.oW]]) 0 0
def nb_ (k_:Int→α) (N:Nat) (f:nS):α:=Tv jK k_ (fun x om=>tU jK k_ N x om N) f
def hmL (f:nS):Rows:=[[.int f.Kind],[.int f.qC],[.int f.rl],[.int f.oX],[.int f.oW]]
def hmN (f:nS):Int:=f.Kind % 8+f.qC % 8+f.rl % 8+f.oX % 8+f.oW % 8
def qP (f:nS):Int:=hmN f % 8
theorem noJ (f:nS):0≤hmN f:=by unfold hmN;omega
theorem nbb (f:nS):0≤qP f∧qP f<8:=by unfold qP;omega
theorem noI (f:nS):itN (fun i s=>s+(rI (nth (hmL f) i) 0) % 8) 5 0 0=hmN f:=by
 show 0+f.Kind % 8+f.qC % 8+f.rl % 8+f.oX % 8+f.oW % 8=hmN f
 unfold hmN
 omega
theorem npn (k_:Int→α) (f:nS) (h_f:jI nS.ct f.enc):∃N,nb_ jK k_ N f=k_ (qP f):=by
 have hb:∀i,i<5→ -9223372036854775808≤rI (nth (hmL f) i) 0∧rI (nth (hmL f) i) 0≤9223372036854775807:=by
  intro i hi
  rcases i with _ | _ | _ | _ | _ | i
  ·exact ye (nS.nrQ h_f)
  ·exact ye (nS.nmz h_f)
  ·exact ye (nS.nui h_f)
  ·exact ye (nS.nkd h_f)
  ·exact ye (nS.nkb h_f)
  ·omega
 refine⟨6, ?_⟩
 unfold nb_ Tv
 have key:tU jK k_ 6 5 (hmL f) 6 0 0=k_ (Int.tmod (itN (fun i s=>s+(rI (nth (hmL f) i) 0) % 8) 5 0 0) 8):=by
  refine yq 5 (fun n i s=>tU jK k_ 6 5 (hmL f) n s i) (fun i s=>s+(rI (nth (hmL f) i) 0) % 8) (fun s=>k_ (Int.tmod s 8)) (fun i s=>0≤s∧s≤7*(i:Int)) ?_ ?_ ?_ 6 0 ⟨by omega,by omega⟩ (by omega)
  ·intro i s hi hs
   obtain⟨h1,h2⟩:=hs
   refine⟨by omega,by omega⟩
  ·intro n i s hi hs
   obtain⟨h1,h2⟩:=hs
   have b:=hb i hi
   show tU jK k_ 6 5 (hmL f) (n+1) s (i:Int)=_
   rw[Vw]
   have hl:i<(hmL f).length:=hi
   have w1:nK ((i:Int)+1)=(i:Int)+1:=nF (by omega) (by omega)
   have w2:nK (s+(rI (nth (hmL f) i) 0) % 8)=s+(rI (nth (hmL f) i) 0) % 8:=nF (by omega) (by omega)
   obtain⟨m1,m2⟩:=nbA (x:=rI (nth (hmL f) i) 0) (n:=8) b.1 b.2 (by omega) (by omega)
   have hd:decide ((i:Int)<5)=true:=decide_eq_true (by omega)
   simp only[RN,hd,nT hl,vL hl,Int.toNat_natCast,m1,m2,w1,w2,nc,nn,cond_true]
  ·intro n s hs
   show tU jK k_ 6 5 (hmL f) (n+1) s ((5:Nat):Int)=_
   rw[Vw]
   rfl
 refine key.trans ?_
 rw[noI]
 exact congrArg k_ (Int.tmod_eq_emod_of_nonneg (noJ f))
def Sp (k_:Int→α) (list_:Rows) (ov:Int→Int→α) (n k:Int):α:=
 bif decide (k<len list_) then
  bif DF (DF true (idx k list_)) (inl (Int.toNat k) list_) then
   ov (nK (n+(bits .and .i64 (rI (nth list_ (Int.toNat k)) 0) 7))) (nK (k+1))
  else jK
 else k_ (Int.tmod n 8)
def tY (k_:Int→α) (N:Nat) (list_:Rows) (m_:Nat):Int→Int→α:=
 Nat.rec (motive:=fun _=>Int→Int→α) (fun _ _=>jK) (fun _ ov=>Sp jK k_ list_ ov) m_
theorem WS (k_:Int→α) (N:Nat) (list_:Rows) (m_:Nat):tY jK k_ N list_ (m_+1)=Sp jK k_ list_ (tY jK k_ N list_ m_):=rfl
def TY {α:Type} (jK:α) (k_:Int→α) (l0:Rows→Int→Int→α) (f:nS):α:=
 l0 ([[.int f.Kind],[.int f.qC],[.int f.rl],[.int f.oX],[.int f.oW]]) 0 0
def ndG (k_:Int→α) (N:Nat) (f:nS):α:=TY jK k_ (fun list_=>tY jK k_ N list_ N) f
theorem nrb (k_:Int→α) (f:nS) (h_f:jI nS.ct f.enc):∃N,ndG jK k_ N f=k_ (qP f):=by
 have hb:∀i,i<5→ -9223372036854775808≤rI (nth (hmL f) i) 0∧rI (nth (hmL f) i) 0≤9223372036854775807:=by
  intro i hi
  rcases i with _ | _ | _ | _ | _ | i
  ·exact ye (nS.nrQ h_f)
  ·exact ye (nS.nmz h_f)
  ·exact ye (nS.nui h_f)
  ·exact ye (nS.nkd h_f)
  ·exact ye (nS.nkb h_f)
  ·omega
 refine⟨6, ?_⟩
 unfold ndG TY
 have key:tY jK k_ 6 (hmL f) 6 0 0=k_ (Int.tmod (itN (fun i s=>s+(rI (nth (hmL f) i) 0) % 8) 5 0 0) 8):=by
  refine yq 5 (fun n i s=>tY jK k_ 6 (hmL f) n s i) (fun i s=>s+(rI (nth (hmL f) i) 0) % 8) (fun s=>k_ (Int.tmod s 8)) (fun i s=>0≤s∧s≤7*(i:Int)) ?_ ?_ ?_ 6 0 ⟨by omega,by omega⟩ (by omega)
  ·intro i s hi hs
   obtain⟨h1,h2⟩:=hs
   refine⟨by omega,by omega⟩
  ·intro n i s hi hs
   obtain⟨h1,h2⟩:=hs
   have b:=hb i hi
   show tY jK k_ 6 (hmL f) (n+1) s (i:Int)=_
   rw[WS]
   have hl:i<(hmL f).length:=hi
   have w1:nK ((i:Int)+1)=(i:Int)+1:=nF (by omega) (by omega)
   have w2:nK (s+(rI (nth (hmL f) i) 0) % 8)=s+(rI (nth (hmL f) i) 0) % 8:=nF (by omega) (by omega)
   have hd:decide ((i:Int)<len (hmL f))=true:=oV hl
   simp only[Sp,hd,nT hl,vL hl,Int.toNat_natCast,nzm,w1,w2,nc,nn,cond_true]
  ·intro n s hs
   show tY jK k_ 6 (hmL f) (n+1) s ((5:Nat):Int)=_
   rw[WS]
   rfl
 refine key.trans ?_
 rw[noI]
 exact congrArg k_ (Int.tmod_eq_emod_of_nonneg (noJ f))
def QJ (k_:Int→α) (x:Rows) (nZ yA Tp wW Vi Vj:Int) (ov:Int→α) (om:Int):α:=
 bif decide (om<nZ) then
  bif DF true (idx om x) then
   bif bif (rI (nth x (Int.toNat om)) 0)==1 then bif (rI (nth x (Int.toNat om)) 1)==yA then bif (rI (nth x (Int.toNat om)) 2)==Tp then bif (rI (nth x (Int.toNat om)) 3)==wW then bif (rI (nth x (Int.toNat om)) 4)==Vi then bif (rI (nth x (Int.toNat om)) 5)==Vj then true else false else false else false else false else false else false then k_ om
   else ov (nK (om+1))
  else jK
 else k_ (-1)
def zr (k_:Int→α) (N:Nat) (x:Rows) (nZ yA Tp wW Vi Vj:Int) (m_:Nat):Int→α:=
 Nat.rec (motive:=fun _=>Int→α) (fun _=>jK) (fun _ ov=>QJ jK k_ x nZ yA Tp wW Vi Vj ov) m_
theorem Zx (k_:Int→α) (N:Nat) (x:Rows) (nZ yA Tp wW Vi Vj:Int) (m_:Nat):zr jK k_ N x nZ yA Tp wW Vi Vj (m_+1)=QJ jK k_ x nZ yA Tp wW Vi Vj (zr jK k_ N x nZ yA Tp wW Vi Vj m_):=rfl
def YV {α:Type} (jK:α) (k_:Int→α) (l0:Rows→Int→Int→Int→Int→Int→Int→Int→α) (t:nh) (f:nS):α:=
 l0 t.nI (len t.nI) f.Kind f.qC f.rl f.oX f.oW 0
def nij (k_:Int→α) (N:Nat) (t:nh) (f:nS):α:=YV jK k_ (fun x nZ yA Tp wW Vi Vj=>zr jK k_ N x nZ yA Tp wW Vi Vj N) t f
def wU (r:List DC) (f:nS):Bool:=bif (rI r 0)==1 then bif (rI r 1)==f.Kind then bif (rI r 2)==f.qC then bif (rI r 3)==f.rl then bif (rI r 4)==f.oX then bif (rI r 5)==f.oW then true else false else false else false else false else false else false
def njW (t:nh) (f:nS):Int:=findIdx (fun _ r=>wU r f) t.nI 0
theorem nuG (k_:Int→α) (t:nh) (f:nS) (h_t:jI nh.ct t.enc):∃N,nij jK k_ N t f=k_ (njW t f):=by
 obtain⟨hl,_⟩:=oy (nh.Xj h_t)
 refine⟨t.nI.length+1, ?_⟩
 unfold nij YV njW
 have key:zr jK k_ (t.nI.length+1) t.nI (len t.nI) f.Kind f.qC f.rl f.oX f.oW (t.nI.length+1) 0=k_ (findIdx (fun _ r=>wU r f) t.nI 0):=by
  refine (qW t.nI (zr jK k_ (t.nI.length+1) t.nI (len t.nI) f.Kind f.qC f.rl f.oX f.oW) (fun i r c=>bif wU r f then k_ (i:Int) else c) (k_ (-1)) ?_ ?_).trans ?_
  ·intro n i h
   rw[Zx]
   simp only[QJ,oV h,nT h,n_ h hl,Int.toNat_natCast,nc,nn,cond_true]
   rfl
  ·intro n
   rw[Zx]
   simp only[QJ,nQ,cond_false]
  ·exact nbi (fun _ r=>wU r f) k_ t.nI 0
 exact key
def T6 (k_:Int→α) (u_:Rows) (yA Tp wW Vi Vj:Int) (ov:Int→α) (k:Int):α:=
 let z0:Int:=Int.tmod (nK ((qP (⟨yA,Tp,wW,Vi,Vj⟩:nS))+k)) 8
 let z1:Bool:=idx z0 u_
 let z2:Bool:=DF true z1
 let z3:List DC:=nth u_ (Int.toNat z0)
 let z4:Int:=rI z3 0
 let z5:Bool:=z4==1
 bif decide (k<8) then
  bif z2 then
   bif z4==0 then k_ (-1)
   else bif KW z5 (DF z2 z1) z2 then
     bif bif z5 then bif (rI z3 1)==yA then bif (rI z3 2)==Tp then bif (rI z3 3)==wW then bif (rI z3 4)==Vi then bif (rI z3 5)==Vj then true else false else false else false else false else false else false then k_ z0
     else ov (nK (k+1))
    else jK
  else jK
 else k_ (-1)
def uJ (k_:Int→α) (N:Nat) (u_:Rows) (yA Tp wW Vi Vj:Int) (m_:Nat):Int→α:=
 Nat.rec (motive:=fun _=>Int→α) (fun _=>jK) (fun _ ov=>T6 jK k_ u_ yA Tp wW Vi Vj ov) m_
theorem YC (k_:Int→α) (N:Nat) (u_:Rows) (yA Tp wW Vi Vj:Int) (m_:Nat):uJ jK k_ N u_ yA Tp wW Vi Vj (m_+1)=T6 jK k_ u_ yA Tp wW Vi Vj (uJ jK k_ N u_ yA Tp wW Vi Vj m_):=rfl
def W7 {α:Type} (jK:α) (k_:Int→α) (l0:Rows→Int→Int→Int→Int→Int→Int→α) (t:nh) (f:nS):α:=
 l0 t.nI f.Kind f.qC f.rl f.oX f.oW 0
def ngp (k_:Int→α) (N:Nat) (t:nh) (f:nS):α:=W7 jK k_ (fun u_ yA Tp wW Vi Vj=>uJ jK k_ N u_ yA Tp wW Vi Vj N) t f
def nxL (t:nh) (_:nS):Bool:=decide (t.nI.length=8)
def nwd (t:Rows) (h:Int) (f:nS):Nat→Nat→Int
 | 0,_=> -1
 | m+1,k=>bif (rI (nth t (Int.toNat ((h+(k:Int)) % 8))) 0)==0 then -1 else bif wU (nth t (Int.toNat ((h+(k:Int)) % 8))) f then (h+(k:Int)) % 8 else nwd t h f m (k+1)
def nbw (t:nh) (f:nS):Int:=nwd t.nI (qP f) f 8 0
theorem nyC {α:Type} (k_:Int→α) (t:Rows) (h:Int) (f:nS):∀(m i:Nat),noY (σ:=Unit) (fun k c s=>bif (rI (nth t (Int.toNat ((h+(k:Int)) % 8))) 0)==0 then k_ (-1) else bif wU (nth t (Int.toNat ((h+(k:Int)) % 8))) f then k_ ((h+(k:Int)) % 8) else c s) (fun _=>k_ (-1)) m i ()=k_ (nwd t h f m i)
 | 0,_=>rfl
 | m+1,i=>by
  simp only[noY,nwd]
  cases (rI (nth t (Int.toNat ((h+(i:Int)) % 8))) 0)==0
  ·cases wU (nth t (Int.toNat ((h+(i:Int)) % 8))) f
   ·exact nyC k_ t h f m (i+1)
   ·rfl
  ·rfl
theorem ntU (k_:Int→α) (t:nh) (f:nS) (aF:nxL t f=true):∃N,ngp jK k_ N t f=k_ (nbw t f):=by
 have h8:t.nI.length=8:=of_decide_eq_true aF
 have hh:=nbb f
 refine⟨9, ?_⟩
 unfold ngp W7 nbw
 have key:uJ jK k_ 9 t.nI f.Kind f.qC f.rl f.oX f.oW 9 0=k_ (nwd t.nI (qP f) f 8 0):=by
  refine (nl4 (σ:=Unit) 8 (fun n k _=>uJ jK k_ 9 t.nI f.Kind f.qC f.rl f.oX f.oW n k) (fun k c s=>bif (rI (nth t.nI (Int.toNat ((qP f+(k:Int)) % 8))) 0)==0 then k_ (-1) else bif wU (nth t.nI (Int.toNat ((qP f+(k:Int)) % 8))) f then k_ ((qP f+(k:Int)) % 8) else c s) (fun _=>k_ (-1)) ?_ ?_ 9 () (by omega)).trans (nyC k_ t.nI (qP f) f 8 0)
  ·intro n i s hi
   show uJ jK k_ 9 t.nI f.Kind f.qC f.rl f.oX f.oW (n+1) (i:Int)=_
   rw[YC]
   have hd:decide ((i:Int)<8)=true:=decide_eq_true (by omega)
   have w1:nK ((i:Int)+1)=(i:Int)+1:=nF (by omega) (by omega)
   have hz:Int.tmod (nK (qP f+(i:Int))) 8=(qP f+(i:Int)) % 8:=by
    rw[nF (by omega) (by omega)]
    exact Int.tmod_eq_emod_of_nonneg (by omega)
   have hx:idx ((qP f+(i:Int)) % 8) t.nI=true:=by
    simp only[idx,Bool.and_eq_true,decide_eq_true_eq,h8]
    omega
   have hf:(⟨f.Kind,f.qC,f.rl,f.oX,f.oW⟩:nS)=f:=rfl
   unfold T6
   simp only[hf,hd,hz,hx,w1,nc,nn,zx,cond_true]
   rfl
  ·intro n s
   show uJ jK k_ 9 t.nI f.Kind f.qC f.rl f.oX f.oW (n+1) ((8:Nat):Int)=_
   rw[YC]
   rfl
 exact key
def YW (k_:Rows→α) (yA Tp wW Vi Vj:Int) (ov:Int→Rows→α) (i:Int) (nD:Rows):α:=
 bif decide (i<8) then
  bif DF true (oT 8 nD ([[.int (Int.tmod (nK ((qP (⟨yA,Tp,wW,Vi,Vj⟩:nS))+i)) 8)]])) then
   ov (nK (i+1)) (nD++([[.int (Int.tmod (nK ((qP (⟨yA,Tp,wW,Vi,Vj⟩:nS))+i)) 8)]]))
  else jK
 else k_ nD
def wO (k_:Rows→α) (N:Nat) (yA Tp wW Vi Vj:Int) (m_:Nat):Int→Rows→α:=
 Nat.rec (motive:=fun _=>Int→Rows→α) (fun _ _=>jK) (fun _ ov=>YW jK k_ yA Tp wW Vi Vj ov) m_
theorem ncR (k_:Rows→α) (N:Nat) (yA Tp wW Vi Vj:Int) (m_:Nat):wO jK k_ N yA Tp wW Vi Vj (m_+1)=YW jK k_ yA Tp wW Vi Vj (wO jK k_ N yA Tp wW Vi Vj m_):=rfl
def nbv {α:Type} (jK:α) (k_:Rows→α) (l0:Int→Int→Int→Int→Int→Int→Rows→α) (f:nS):α:=
 l0 f.Kind f.qC f.rl f.oX f.oW 0 []
def nk0 (k_:Rows→α) (N:Nat) (f:nS):α:=nbv jK k_ (fun yA Tp wW Vi Vj=>wO jK k_ N yA Tp wW Vi Vj N) f
def nze (h:Int) (i:Nat) (o:Rows):Rows:=o++[[.int ((h+(i:Int)) % 8)]]
def U2 (f:nS):Rows:=itN (nze (qP f)) 8 0 []
theorem nwa (k_:Rows→α) (f:nS):∃N,nk0 jK k_ N f=k_ (U2 f):=by
 have hh:=nbb f
 refine⟨9, ?_⟩
 unfold nk0 nbv U2
 have key:wO jK k_ 9 f.Kind f.qC f.rl f.oX f.oW 9 0 []=k_ (itN (nze (qP f)) 8 0 []):=by
  refine yq 8 (fun n i o=>wO jK k_ 9 f.Kind f.qC f.rl f.oX f.oW n i o) (nze (qP f)) k_ (fun i o=>o.length=i) ?_ ?_ ?_ 9 [] rfl (by omega)
  ·intro i o hi ho
   simp only[nze,List.length_append,List.length_cons,List.length_nil,ho]
  ·intro n i o hi ho
   show wO jK k_ 9 f.Kind f.qC f.rl f.oX f.oW (n+1) (i:Int) o=_
   rw[ncR]
   have hd:decide ((i:Int)<8)=true:=decide_eq_true (by omega)
   have w1:nK ((i:Int)+1)=(i:Int)+1:=nF (by omega) (by omega)
   have hz:Int.tmod (nK (qP f+(i:Int))) 8=(qP f+(i:Int)) % 8:=by
    rw[nF (by omega) (by omega)]
    exact Int.tmod_eq_emod_of_nonneg (by omega)
   have hf:(⟨f.Kind,f.qC,f.rl,f.oX,f.oW⟩:nS)=f:=rfl
   have hr:oT 8 o [[.int ((qP f+(i:Int)) % 8)]]=true:=qY (by simp only[List.length_cons,List.length_nil];omega) (by omega)
   unfold YW
   simp only[hf,hd,hz,hr,w1,nc,nn,cond_true]
   rfl
  ·intro n o ho
   show wO jK k_ 9 f.Kind f.qC f.rl f.oX f.oW (n+1) ((8:Nat):Int) o=_
   rw[ncR]
   rfl
 exact key
def yj (k_:Bool→α) (l1:Int→Int→Int→Rows→Int→α) (x:Rows) (nZ:Int) (u_:Rows) (ov:Int→α) (om:Int):α:=
 let z0:Rows:=U2 (nS.na (nth x (Int.toNat om)) 1)
 bif decide (om<nZ) then
  bif DF true (idx om x) then
   bif bif !(nf (rI (nth x (Int.toNat om)) 0) 0 2) then true else !(nf (rI (nth x (Int.toNat om)) 6) 0 3) then k_ false
   else bif (rI (nth x (Int.toNat om)) 0) != 1 then
    bif bif !(bif (rI (nth x (Int.toNat om)) 1)==0 then bif (rI (nth x (Int.toNat om)) 2)==0 then bif (rI (nth x (Int.toNat om)) 3)==0 then bif (rI (nth x (Int.toNat om)) 4)==0 then bif (rI (nth x (Int.toNat om)) 5)==0 then true else false else false else false else false else false) then true else (rI (nth x (Int.toNat om)) 6) != 0 then k_ false
    else ov (nK (om+1))
   else bif (njW (⟨u_⟩:nh) (nS.na (nth x (Int.toNat om)) 1)) != om then k_ false
   else l1 om om (len z0) z0 0
  else jK
 else k_ true
def yk (k_:Bool→α) (ov:Int→α) (om PC x_6:Int) (u_ x_8:Rows) (ih1:Int→α) (x_7:Int):α:=
 bif decide (x_7<x_6) then
  bif DF (DF true (idx x_7 x_8)) (inl (Int.toNat x_7) x_8) then
   bif (rI (nth x_8 (Int.toNat x_7)) 0)==om then ov (nK (PC+1))
   else bif DF true (idx (rI (nth x_8 (Int.toNat x_7)) 0) u_) then
     bif (rI (nth u_ (Int.toNat (rI (nth x_8 (Int.toNat x_7)) 0))) 0)==0 then k_ false
     else ih1 (nK (x_7+1))
    else jK
  else jK
 else ov (nK (PC+1))
def uF (k_:Bool→α) (N:Nat) (ov:Int→α) (om PC x_6:Int) (u_ x_8:Rows) (m_:Nat):Int→α:=
 Nat.rec (motive:=fun _=>Int→α) (fun _=>jK) (fun _ ih1=>yk jK k_ ov om PC x_6 u_ x_8 ih1) m_
theorem XK (k_:Bool→α) (N:Nat) (ov:Int→α) (om PC x_6:Int) (u_ x_8:Rows) (m_:Nat) (x_7:Int):uF jK k_ N ov om PC x_6 u_ x_8 (m_+1) x_7=yk jK k_ ov om PC x_6 u_ x_8 (uF jK k_ N ov om PC x_6 u_ x_8 m_) x_7:=rfl
def tz (k_:Bool→α) (N:Nat) (x:Rows) (nZ:Int) (u_:Rows) (m_:Nat):Int→α:=
 Nat.rec (motive:=fun _=>Int→α) (fun _=>jK) (fun _ ov=>yj jK k_ (fun om PC x_6 x_8=>uF jK k_ N ov om PC x_6 u_ x_8 N) x nZ u_ ov) m_
theorem XJ (k_:Bool→α) (N:Nat) (x:Rows) (nZ:Int) (u_:Rows) (m_:Nat) (om:Int):tz jK k_ N x nZ u_ (m_+1) om=yj jK k_ (fun om PC x_6 x_8=>uF jK k_ N (tz jK k_ N x nZ u_ m_) om PC x_6 u_ x_8 N) x nZ u_ (tz jK k_ N x nZ u_ m_) om:=rfl
def QD {α:Type} (jK:α) (k_:Bool→α) (l0:Rows→Int→Rows→Int→α) (t:nh):α:=
 bif (len t.nI) != 8 then k_ false
 else l0 t.nI (len t.nI) t.nI 0
def QC (k_:Bool→α) (N:Nat) (t:nh):α:=QD jK k_ (fun x nZ u_=>tz jK k_ N x nZ u_ N) t
theorem nbd {p:Nat→List DC→Bool} :∀ {l:Rows} {s:Nat},qQ p l s=false→∀i,i<l.length→p (s+i) (nth l i)=false
 | [],_,_,i,h=>by simp at h
 | r::rs,s,h,i,hi=>by
  simp only[qQ] at h
  cases hp:p s r
  ·rw[hp,cond_false] at h
   cases i with
   | zero=>exact hp
   | succ i=>
    have:=nbd h i (by simpa using hi)
    rw[show s+(i+1)=s+1+i by omega]
    exact this
  ·rw[hp] at h
   cases h
theorem niZ {p:Nat→List DC→Bool} :∀ {l:Rows} {s:Nat},(∀i,i<l.length→p (s+i) (nth l i)=false)→qQ p l s=false
 | [],_,_=>rfl
 | r::rs,s,h=>by
  simp only[qQ]
  rw[show p s r=false from h 0 (by simp),cond_false]
  exact niZ (fun i hi=>by
   have:=h (i+1) (by simpa using hi)
   rw[show s+1+i=s+(i+1) by omega]
   exact this)
def noF (t:Rows) (i:Int):Rows→Bool
 | []=>false
 | r::rs=>bif (rI r 0)==i then false else bif (rI (nth t (Int.toNat (rI r 0))) 0)==0 then true else noF t i rs
theorem nyD {α:Type} (t:Rows) (x:Int) (A B:α):∀(l:Rows) (j:Nat),sB (σ:=Unit) (fun _ r c s=>bif (rI r 0)==x then A else bif (rI (nth t (Int.toNat (rI r 0))) 0)==0 then B else c s) (fun _=>A) l j ()=bif noF t x l then B else A
 | [],_=>rfl
 | r::rs,j=>by
  simp only[sB,noF]
  cases (rI r 0)==x
  ·cases (rI (nth t (Int.toNat (rI r 0))) 0)==0
   ·exact nyD t x A B rs (j+1)
   ·rfl
  ·rfl
def nvM (r:List DC):Bool:=bif (rI r 1)==0 then bif (rI r 2)==0 then bif (rI r 3)==0 then bif (rI r 4)==0 then bif (rI r 5)==0 then true else false else false else false else false else false
def ngM (r:List DC):Bool:=bif !(nf (rI r 0) 0 2) then true else !(nf (rI r 6) 0 3)
def njV (t:Rows) (i:Nat) (r:List DC):Bool:=bif ngM r then true else bif (rI r 0) != 1 then bif !(nvM r) then true else (rI r 6) != 0 else bif (njW (⟨t⟩:nh) (nS.na r 1)) != (i:Int) then true else noF t (i:Int) (U2 (nS.na r 1))
def ntt (t:Rows) (i:Nat) (r:List DC):Bool:=bif ngM r then true else bif (rI r 0) != 1 then bif (rI r 6) != 0 then true else !(nvM r) else (nbw (⟨t⟩:nh) (nS.na r 1)) != (i:Int)
def zG (t:nh):Bool:=bif (len t.nI) != 8 then false else bif qQ (njV t.nI) t.nI 0 then false else true
def nxA (t:Rows) (h i:Int):Nat→Nat→Bool
 | 0,_=>false
 | m+1,k=>bif (h+(k:Int)) % 8==i then false else bif (rI (nth t (Int.toNat ((h+(k:Int)) % 8))) 0)==0 then true else nxA t h i m (k+1)
theorem nvK (t:Rows) (i:Int) (f:nS):noF t i (U2 f)=nxA t (qP f) i 8 0:=rfl
theorem Xi {r:List DC} {f:nS} :wU r f=true↔rI r 0=1∧nS.na r 1=f:=by
 cases f with
 | mk a b c d e=>
  simp only[wU,nS.na,nS.mk.injEq]
  by_cases h0:rI r 0=1
  ·by_cases h1:rI r 1=a
   ·by_cases h2:rI r 2=b
    ·by_cases h3:rI r 3=c
     ·by_cases h4:rI r 4=d
      ·by_cases h5:rI r 5=e
       ·simp [h0,h1,h2,h3,h4,h5]
       ·simp [h0,h1,h2,h3,h4,h5]
      ·simp [h0,h1,h2,h3,h4]
     ·simp [h0,h1,h2,h3]
    ·simp [h0,h1,h2]
   ·simp [h0,h1]
  ·simp [h0]
theorem nxd {r:List DC} (h:rI r 0=1):wU r (nS.na r 1)=true:=Xi.2 ⟨h,rfl⟩
theorem nxe {t:Rows} {h:Int} {f:nS} {i:Nat} (hi:i<8) (h1:rI (nth t i) 0=1) (hf:nS.na (nth t i) 1=f)
  (hu:∀j,j<8→wU (nth t j) f=true→j=i):∀(m k:Nat),(∃d,d<m∧(h+(k:Int)+(d:Int)) % 8=(i:Int))→nxA t h (i:Int) m k=false→nwd t h f m k=(i:Int)
 | 0,k,⟨d,hd,_⟩,_=>by omega
 | m+1,k,⟨d,hd,he⟩,hw=>by
  unfold nwd
  unfold nxA at hw
  by_cases hk:(h+(k:Int)) % 8=(i:Int)
  ·rw[hk,Int.toNat_natCast]
   have e0:((rI (nth t i) 0)==0)=false:=by rw[h1];rfl
   rw[e0,Xi.2 ⟨h1,hf⟩]
   rfl
  ·have e1:((h+(k:Int)) % 8==(i:Int))=false:=by simpa using hk
   rw[e1,cond_false] at hw
   cases e0:(rI (nth t (Int.toNat ((h+(k:Int)) % 8))) 0)==0
   ·rw[e0,cond_false] at hw
    cases e2:wU (nth t (Int.toNat ((h+(k:Int)) % 8))) f
    ·simp only[cond_false]
     refine nxe hi h1 hf hu m (k+1) ⟨d - 1, ?_, ?_⟩ hw
     ·rcases d with _ | d
      ·exact absurd (by simpa using he) hk
      ·omega
     ·rcases d with _ | d
      ·exact absurd (by simpa using he) hk
      ·rw[←he]
       congr 1
       omega
    ·have:=hu _ (by omega) e2
     exact absurd (by omega) hk
   ·rw[e0] at hw
    cases hw
theorem nwM {t:Rows} {h:Int} {f:nS} {i:Nat} :∀(m k:Nat),nwd t h f m k=(i:Int)→nxA t h (i:Int) m k=false
 | 0,_,_=>rfl
 | m+1,k,hl=>by
  unfold nwd at hl
  unfold nxA
  cases e1:((h+(k:Int)) % 8==(i:Int))
  ·cases e0:(rI (nth t (Int.toNat ((h+(k:Int)) % 8))) 0)==0
   ·rw[e0,cond_false] at hl
    cases e2:wU (nth t (Int.toNat ((h+(k:Int)) % 8))) f
    ·rw[e2,cond_false] at hl
     exact nwM m (k+1) hl
    ·rw[e2,cond_true] at hl
     have:((h+(k:Int)) % 8==(i:Int))=true:=by simpa using hl
     rw[e1] at this
     cases this
   ·rw[e0,cond_true] at hl
    omega
  ·rfl
theorem nxU {t:Rows} {i:Nat} (h:i<t.length) (h1:rI (nth t i) 0=1):(njW (⟨t⟩:nh) (nS.na (nth t i) 1) != (i:Int))=zi (fun j=>wU (nth t j) (nS.na (nth t i) 1)) i 0:=by
 have:=ni3 (fun _ r=>wU r (nS.na (nth t i) 1)) t 0 i h (nxd h1)
 rw[Nat.zero_add] at this
 exact this
theorem nbe {p:Nat→Bool} :∀ {m s:Nat},zi p m s=false↔∀j,s≤j→j<s+m→p j=false
 | 0,s=>by simp only[zi,true_iff];intro j h1 h2;omega
 | m+1,s=>by
  simp only[zi]
  cases hp:p s
  ·simp only[cond_false]
   rw[nbe]
   constructor
   ·intro h j h1 h2
    by_cases hj:j=s
    ·rw[hj];exact hp
    ·exact h j (by omega) (by omega)
   ·intro h j h1 h2
    exact h j (by omega) (by omega)
  ·simp only[cond_true]
   constructor
   ·intro h;cases h
   ·intro h
    have:=h s (by omega) (by omega)
    rw[hp] at this
    cases this
theorem nya {t:Rows} (h8:t.length=8):qQ (ntt t) t 0=qQ (njV t) t 0:=by
 have zc:∀r:List DC,(bif !(nvM r) then true else (rI r 6) != 0)=(bif (rI r 6) != 0 then true else !(nvM r)):=by
  intro r
  cases nvM r<;>cases ((rI r 6) != 0)<;>rfl
 have sI:∀i,njV t i (nth t i)=false→rI (nth t i) 0=1→ngM (nth t i)=false∧zi (fun j=>wU (nth t j) (nS.na (nth t i) 1)) i 0=false∧nxA t (qP (nS.na (nth t i) 1)) (i:Int) 8 0=false∨¬i<t.length:=by
  intro i h h1
  by_cases hi:i<t.length
  ·left
   unfold njV at h
   have e1:((rI (nth t i) 0) != 1)=false:=by rw[h1];rfl
   rw[e1,nxU hi h1,nvK] at h
   cases hs:ngM (nth t i)
   ·rw[hs] at h
    simp only[cond_false] at h
    refine⟨rfl, ?_⟩
    cases ha:zi (fun j=>wU (nth t j) (nS.na (nth t i) 1)) i 0
    ·rw[ha,cond_false] at h
     exact⟨rfl,h⟩
    ·rw[ha] at h;cases h
   ·rw[hs] at h;cases h
  ·exact .inr hi
 have sS:∀i,i<t.length→ntt t i (nth t i)=false→rI (nth t i) 0=1→ngM (nth t i)=false∧nbw (⟨t⟩:nh) (nS.na (nth t i) 1)=(i:Int):=by
  intro i hi h h1
  unfold ntt at h
  have e1:((rI (nth t i) 0) != 1)=false:=by rw[h1];rfl
  rw[e1] at h
  cases hs:ngM (nth t i)
  ·rw[hs] at h
   simp only[cond_false] at h
   exact⟨rfl,by simpa using h⟩
  ·rw[hs] at h;cases h
 cases hI:qQ (njV t) t 0
 ·have hI:=nbd hI
  simp only[Nat.zero_add] at hI
  refine niZ (fun i hi=> ?_)
  rw[Nat.zero_add]
  by_cases h1:rI (nth t i) 0=1
  ·rcases sI i (hI i hi) h1 with ⟨a,b,c⟩ | h
   ·have hu:∀j,j<8→wU (nth t j) (nS.na (nth t i) 1)=true→j=i:=by
     intro j hj hq
     obtain⟨j1,j2⟩:=Xi.1 hq
     rcases Nat.lt_trichotomy j i with cd | rfl | Ho
     ·have:=nbe.1 b j (by omega) (by omega)
      rw[hq] at this
      cases this
     ·rfl
     ·rcases sI j (hI j (by omega)) j1 with ⟨_,b',_⟩ | h
      ·have:=nbe.1 b' i (by omega) (by omega)
       rw[Xi.2 ⟨h1,j2.symm⟩] at this
       cases this
      ·omega
    have hf:nbw (⟨t⟩:nh) (nS.na (nth t i) 1)=(i:Int):=by
     have hh:=nbb (nS.na (nth t i) 1)
     refine nxe (by omega) h1 rfl hu 8 0 ⟨(((i:Int) - qP (nS.na (nth t i) 1)) % 8).toNat,by omega,by omega⟩ c
    unfold ntt
    rw[a,hf,h1]
    simp
   ·exact absurd hi h
  ·have:=hI i hi
   unfold njV at this
   unfold ntt
   have e1:((rI (nth t i) 0) != 1)=true:=by simpa using h1
   rw[e1] at this ⊢
   rw[zc] at this
   exact this
 ·cases hS:qQ (ntt t) t 0
  ·have hS:=nbd hS
   simp only[Nat.zero_add] at hS
   have:qQ (njV t) t 0=false:=by
    refine niZ (fun i hi=> ?_)
    rw[Nat.zero_add]
    by_cases h1:rI (nth t i) 0=1
    ·obtain⟨a,b⟩:=sS i hi (hS i hi) h1
     have hu:zi (fun j=>wU (nth t j) (nS.na (nth t i) 1)) i 0=false:=by
      refine nbe.2 (fun j _ hj=> ?_)
      cases hq:wU (nth t j) (nS.na (nth t i) 1)
      ·rfl
      ·obtain⟨j1,j2⟩:=Xi.1 hq
       have:=(sS j (by omega) (hS j (by omega)) j1).2
       rw[j2,b] at this
       omega
     unfold njV
     have e1:((rI (nth t i) 0) != 1)=false:=by rw[h1];rfl
     rw[a,e1,nxU hi h1,hu,nvK,nwM 8 0 b]
     rfl
    ·have:=hS i hi
     unfold ntt at this
     unfold njV
     have e1:((rI (nth t i) 0) != 1)=true:=by simpa using h1
     rw[e1] at this ⊢
     rw[zc]
     exact this
   rw[hI] at this
   cases this
  ·rfl
theorem nso (k_:Bool→α) (t:nh) (h_t:jI nh.ct t.enc):∃N,QC jK k_ N t=k_ (zG t):=by
 obtain⟨hl,_⟩:=oy (nh.Xj h_t)
 refine⟨t.nI.length+9, ?_⟩
 unfold QC QD zG
 refine pj (fun _=>rfl) (fun hg=> ?_)
 have h8:t.nI.length=8:=by
  have:len t.nI=8:=by simpa using hg
  simp only[len] at this
  omega
 have key:tz jK k_ (t.nI.length+9) t.nI (len t.nI) t.nI (t.nI.length+9) 0=bif qQ (njV t.nI) t.nI 0 then k_ false else k_ true:=by
  refine (vv t.nI (tz jK k_ (t.nI.length+9) t.nI (len t.nI) t.nI) (fun i r c=>bif njV t.nI i r then k_ false else c) (k_ true) ?_ ?_ (t.nI.length+9) (by omega)).trans (vb (njV t.nI) (k_ false) (k_ true) t.nI 0)
  ·intro n i h
   rw[XJ]
   have hc:∀z:Int,rI (nth t.nI i) 0=z→True:=fun _ _=>trivial
   have hw8:(U2 (nS.na (nth t.nI i) 1)).length=8:=rfl
   have inner:∀ih:Int→α,uF jK k_ (t.nI.length+9) ih (i:Int) (i:Int) (len (U2 (nS.na (nth t.nI i) 1))) t.nI (U2 (nS.na (nth t.nI i) 1)) (t.nI.length+9) 0=bif noF t.nI (i:Int) (U2 (nS.na (nth t.nI i) 1)) then k_ false else ih ((i:Int)+1):=by
    intro ih
    refine (vv (U2 (nS.na (nth t.nI i) 1)) (uF jK k_ (t.nI.length+9) ih (i:Int) (i:Int) (len (U2 (nS.na (nth t.nI i) 1))) t.nI (U2 (nS.na (nth t.nI i) 1))) (fun j r c=>bif (rI r 0)==(i:Int) then ih ((i:Int)+1) else bif (rI (nth t.nI (Int.toNat (rI r 0))) 0)==0 then k_ false else c) (ih ((i:Int)+1)) ?_ ?_ (t.nI.length+9) (by omega)).trans (nyD t.nI (i:Int) (ih ((i:Int)+1)) (k_ false) (U2 (nS.na (nth t.nI i) 1)) 0)
    ·intro n j hj
     rw[XK]
     have hx:idx (rI (nth (U2 (nS.na (nth t.nI i) 1)) j) 0) t.nI=true:=by
      have:rI (nth (U2 (nS.na (nth t.nI i) 1)) j) 0=(qP (nS.na (nth t.nI i) 1)+(j:Int)) % 8:=by
       rw[hw8] at hj
       rcases j with _ | _ | _ | _ | _ | _ | _ | _ | j
       all_goals first | rfl | omega
      rw[this]
      simp only[idx,Bool.and_eq_true,decide_eq_true_eq,h8]
      omega
     have w1:nK ((i:Int)+1)=(i:Int)+1:=n_ h hl
     have w2:nK ((j:Int)+1)=(j:Int)+1:=nF (by omega) (by omega)
     simp only[yk,oV hj,nT hj,vL hj,hx,w1,w2,Int.toNat_natCast,nc,nn,cond_true]
    ·intro n
     rw[XK]
     simp only[yk,nQ,cond_false,n_ h hl]
   unfold yj
   simp only[inner,oV h,nT h,n_ h hl,Int.toNat_natCast,nc,nn,cond_true]
   unfold njV
   show (bif ngM (nth t.nI i) then k_ false else _)=_
   cases ngM (nth t.nI i)
   ·simp only[cond_false]
    cases ((rI (nth t.nI i) 0) != 1)
    ·simp only[cond_false]
     cases (njW (⟨t.nI⟩:nh) (nS.na (nth t.nI i) 1) != (i:Int))<;>rfl
    ·rfl
   ·rfl
  ·intro n
   rw[XJ]
   simp only[yj,nQ,cond_false]
 refine key.trans ?_
 exact Jk rfl rfl
def O8 (k_:Bool→α) (u_:Rows) (ov:Int→α) (k:Int):α:=
 bif decide (k<len u_) then
  bif DF true (idx k u_) then
   bif bif !(nf (rI (nth u_ (Int.toNat k)) 0) 0 2) then true else !(nf (rI (nth u_ (Int.toNat k)) 6) 0 3) then k_ false
   else bif (rI (nth u_ (Int.toNat k)) 0) != 1 then
    bif bif (rI (nth u_ (Int.toNat k)) 6) != 0 then true else !(bif (rI (nth u_ (Int.toNat k)) 1)==0 then bif (rI (nth u_ (Int.toNat k)) 2)==0 then bif (rI (nth u_ (Int.toNat k)) 3)==0 then bif (rI (nth u_ (Int.toNat k)) 4)==0 then bif (rI (nth u_ (Int.toNat k)) 5)==0 then true else false else false else false else false else false) then k_ false
    else ov (nK (k+1))
   else bif DF true (nxL (⟨u_⟩:nh) (nS.na (nth u_ (Int.toNat k)) 1)) then
     bif (nbw (⟨u_⟩:nh) (nS.na (nth u_ (Int.toNat k)) 1)) != k then k_ false
     else ov (nK (k+1))
    else jK
  else jK
 else k_ true
def yt (k_:Bool→α) (N:Nat) (u_:Rows) (m_:Nat):Int→α:=
 Nat.rec (motive:=fun _=>Int→α) (fun _=>jK) (fun _ ov=>O8 jK k_ u_ ov) m_
theorem YA (k_:Bool→α) (N:Nat) (u_:Rows) (m_:Nat):yt jK k_ N u_ (m_+1)=O8 jK k_ u_ (yt jK k_ N u_ m_):=rfl
def WZ {α:Type} (jK:α) (k_:Bool→α) (l0:Rows→Int→α) (t:nh):α:=
 bif (len t.nI) != 8 then k_ false
 else l0 t.nI 0
def ngf (k_:Bool→α) (N:Nat) (t:nh):α:=WZ jK k_ (fun u_=>yt jK k_ N u_ N) t
theorem ntL (k_:Bool→α) (t:nh) (h_t:jI nh.ct t.enc):∃N,ngf jK k_ N t=k_ (zG t):=by
 obtain⟨hl,_⟩:=oy (nh.Xj h_t)
 refine⟨t.nI.length+1, ?_⟩
 unfold ngf WZ zG
 refine pj (fun _=>rfl) (fun hg=> ?_)
 have h8:t.nI.length=8:=by
  have:len t.nI=8:=by simpa using hg
  simp only[len] at this
  omega
 have key:yt jK k_ (t.nI.length+1) t.nI (t.nI.length+1) 0=bif qQ (ntt t.nI) t.nI 0 then k_ false else k_ true:=by
  refine (qW t.nI (yt jK k_ (t.nI.length+1) t.nI) (fun i r c=>bif ntt t.nI i r then k_ false else c) (k_ true) ?_ ?_).trans (vb (ntt t.nI) (k_ false) (k_ true) t.nI 0)
  ·intro n i h
   rw[YA]
   have ho:nxL (⟨t.nI⟩:nh) (nS.na (nth t.nI i) 1)=true:=decide_eq_true h8
   simp only[O8,ho,oV h,nT h,n_ h hl,Int.toNat_natCast,nc,nn,cond_true]
   unfold ntt
   show (bif ngM (nth t.nI i) then k_ false else _)=_
   cases ngM (nth t.nI i)
   ·simp only[cond_false]
    cases ((rI (nth t.nI i) 0) != 1)
    ·rfl
    ·rfl
   ·rfl
  ·intro n
   rw[YA]
   simp only[O8,nQ,cond_false]
 refine key.trans ?_
 rw[nya h8]
 exact Jk rfl rfl
def zU (k_:Bool→α) (nv:Int) (x:Rows) (nZ:Int) (ov:Int→α) (om:Int):α:=
 bif decide (om<nZ) then
  bif DF true (idx om x) then
   bif !(nf (rI (nth x (Int.toNat om)) 0) 0 (nK (nv - 1))) then k_ false
   else ov (nK (om+1))
  else jK
 else k_ true
def xl (k_:Bool→α) (N:Nat) (nv:Int) (x:Rows) (nZ:Int) (m_:Nat):Int→α:=
 Nat.rec (motive:=fun _=>Int→α) (fun _=>jK) (fun _ ov=>zU jK k_ nv x nZ ov) m_
theorem VB (k_:Bool→α) (N:Nat) (nv:Int) (x:Rows) (nZ:Int) (m_:Nat):xl jK k_ N nv x nZ (m_+1)=zU jK k_ nv x nZ (xl jK k_ N nv x nZ m_):=rfl
def TB {α:Type} (jK:α) (k_:Bool→α) (l0:Rows→Int→Int→α) (s:nJ) (nv:Int):α:=
 bif bif !(nf nv 1 4) then true else bif (len s.Key) != 16 then true else !(na9 (len s.Table)) then k_ false
 else l0 s.Table (len s.Table) 0
def ncv (k_:Bool→α) (N:Nat) (s:nJ) (nv:Int):α:=TB jK k_ (fun x nZ=>xl jK k_ N nv x nZ N) s nv
def zg (s:nJ) (nv:Int):Bool:=bif bif !(nf nv 1 4) then true else bif (len s.Key) != 16 then true else !(na9 (len s.Table)) then false
 else s.Table.all (fun r=>nf (rI r 0) 0 (nK (nv - 1)))
theorem npA (k_:Bool→α) (s:nJ) (nv:Int) (xw:jI nJ.ct s.enc):∃N,ncv jK k_ N s nv=k_ (zg s nv):=by
 obtain⟨hl,_⟩:=oy (nJ.Xk xw)
 refine⟨s.Table.length+1, ?_⟩
 unfold ncv TB zg
 refine pj (fun _=>rfl) (fun _=> ?_)
 have key:xl jK k_ (s.Table.length+1) nv s.Table (len s.Table) (s.Table.length+1) 0=bif s.Table.all (fun r=>nf (rI r 0) 0 (nK (nv - 1))) then k_ true else k_ false:=by
  refine (qW s.Table (xl jK k_ (s.Table.length+1) nv s.Table (len s.Table)) (fun i r c=>bif !(nf (rI r 0) 0 (nK (nv - 1))) then k_ false else c) (k_ true) ?_ ?_).trans (Sw (fun r=>nf (rI r 0) 0 (nK (nv - 1))) (k_ false) (k_ true) s.Table 0)
  ·intro n i h
   rw[VB]
   simp only[zU,oV h,nT h,n_ h hl,Int.toNat_natCast,nc,nn,cond_true]
  ·intro n
   rw[VB]
   simp only[zU,nQ,cond_false]
 refine key.trans ?_
 cases s.Table.all (fun r=>nf (rI r 0) 0 (nK (nv - 1)))<;>rfl
def Nx (k_:Bool→α) (nv:Int) (sq:Rows) (ov:Int→α) (k:Int):α:=
 bif decide (k<len sq) then
  bif DF true (idx k sq) then
   bif !(nf (rI (nth sq (Int.toNat k)) 0) 0 (nK (nv - 1))) then k_ false
   else ov (nK (k+1))
  else jK
 else k_ true
def xr (k_:Bool→α) (N:Nat) (nv:Int) (sq:Rows) (m_:Nat):Int→α:=
 Nat.rec (motive:=fun _=>Int→α) (fun _=>jK) (fun _ ov=>Nx jK k_ nv sq ov) m_
theorem WX (k_:Bool→α) (N:Nat) (nv:Int) (sq:Rows) (m_:Nat):xr jK k_ N nv sq (m_+1)=Nx jK k_ nv sq (xr jK k_ N nv sq m_):=rfl
def T4 {α:Type} (jK:α) (k_:Bool→α) (l0:Rows→Int→α) (s:nJ) (nv:Int):α:=
 bif bif !(nf nv 1 4) then true else bif (len s.Key) != 16 then true else !(na9 (len s.Table)) then k_ false
 else l0 s.Table 0
def ndW (k_:Bool→α) (N:Nat) (s:nJ) (nv:Int):α:=T4 jK k_ (fun sq=>xr jK k_ N nv sq N) s nv
theorem nrp (k_:Bool→α) (s:nJ) (nv:Int) (xw:jI nJ.ct s.enc):∃N,ndW jK k_ N s nv=k_ (zg s nv):=by
 obtain⟨hl,_⟩:=oy (nJ.Xk xw)
 refine⟨s.Table.length+1, ?_⟩
 unfold ndW T4 zg
 refine pj (fun _=>rfl) (fun _=> ?_)
 have key:xr jK k_ (s.Table.length+1) nv s.Table (s.Table.length+1) 0=bif s.Table.all (fun r=>nf (rI r 0) 0 (nK (nv - 1))) then k_ true else k_ false:=by
  refine (qW s.Table (xr jK k_ (s.Table.length+1) nv s.Table) (fun i r c=>bif !(nf (rI r 0) 0 (nK (nv - 1))) then k_ false else c) (k_ true) ?_ ?_).trans (Sw (fun r=>nf (rI r 0) 0 (nK (nv - 1))) (k_ false) (k_ true) s.Table 0)
  ·intro n i h
   rw[WX]
   simp only[Nx,oV h,nT h,n_ h hl,Int.toNat_natCast,nc,nn,cond_true]
  ·intro n
   rw[WX]
   simp only[Nx,nQ,cond_false]
 refine key.trans ?_
 cases s.Table.all (fun r=>nf (rI r 0) 0 (nK (nv - 1)))<;>rfl
def vp (k_:Bool→α) (l1:Int→Int→α) (nv:Int) (x:Rows) (nZ:Int) (sq:Rows) (ov:Int→α) (om:Int):α:=
 bif decide (om<nZ) then
  bif DF true (idx om x) then
   bif bif (rI (nth x (Int.toNat om)) 7)==0 then decide (nv≤rI (nth x (Int.toNat om)) 8) else false then k_ false
   else ov (nK (om+1))
  else jK
 else l1 (len sq) 0
def vq (k_:Bool→α) (nv:Int) (sq:Rows) (ui:Int) (ih1:Int→α) (PC:Int):α:=
 bif decide (PC<ui) then
  bif DF true (idx PC sq) then
   bif bif (rI (nth sq (Int.toNat PC)) 0)==1 then decide (nv≤rI (nth sq (Int.toNat PC)) 6) else false then k_ false
   else ih1 (nK (PC+1))
  else jK
 else k_ true
def sA (k_:Bool→α) (N:Nat) (nv:Int) (sq:Rows) (ui:Int) (m_:Nat):Int→α:=
 Nat.rec (motive:=fun _=>Int→α) (fun _=>jK) (fun _ ih1=>vq jK k_ nv sq ui ih1) m_
theorem S5 (k_:Bool→α) (N:Nat) (nv:Int) (sq:Rows) (ui:Int) (m_:Nat):sA jK k_ N nv sq ui (m_+1)=vq jK k_ nv sq ui (sA jK k_ N nv sq ui m_):=rfl
def sw (k_:Bool→α) (N:Nat) (nv:Int) (x:Rows) (nZ:Int) (sq:Rows) (m_:Nat):Int→α:=
 Nat.rec (motive:=fun _=>Int→α) (fun _=>jK) (fun _ ov=>vp jK k_ (fun ui=>sA jK k_ N nv sq ui N) nv x nZ sq ov) m_
theorem S4 (k_:Bool→α) (N:Nat) (nv:Int) (x:Rows) (nZ:Int) (sq:Rows) (m_:Nat) (om:Int):sw jK k_ N nv x nZ sq (m_+1) om=vp jK k_ (fun ui=>sA jK k_ N nv sq ui N) nv x nZ sq (sw jK k_ N nv x nZ sq m_) om:=rfl
def yL {α:Type} (jK:α) (k_:Bool→α) (l0:Rows→Int→Rows→Int→α) (s:nj) (nv:Int):α:=
 bif bif !(U3 s.oY) then true else bif !(zG s.Table) then true else !(zg s.oO nv) then k_ false
 else l0 s.oY (len s.oY) s.Table.nI 0
def yK (k_:Bool→α) (N:Nat) (s:nj) (nv:Int):α:=yL jK k_ (fun x nZ sq=>sw jK k_ N nv x nZ sq N) s nv
def sa (s:nj) (nv:Int):Bool:=bif bif !(U3 s.oY) then true else bif !(zG s.Table) then true else !(zg s.oO nv) then false
 else bif s.oY.all (fun r=> !(decide (nv≤rI r 8))) then s.Table.nI.all (fun r=> !(decide (nv≤rI r 6))) else false
theorem niX {p q:List DC→Bool} :∀ {l:Rows},(∀r∈l,p r=q r)→l.all p=l.all q
 | [],_=>rfl
 | r::rs,h=>by
  simp only[List.all_cons]
  rw[h r (by simp),niX (fun x hx=>h x (by simp [hx]))]
theorem nwH {r:List DC} (h:RL (pF.na r 0)=true) (h7:rI r 7≠0):rI r 8=0:=by
 unfold RL YN at h
 simp only[id] at h
 have e7:((pF.na r 0).Action==0)=false:=by
  show (rI r 7==0)=false
  simpa using h7
 rw[e7] at h
 simp only[cond_false] at h
 by_cases h1:rI r 8=0
 ·exact h1
 ·have e8:((pF.na r 0).Queue==0)=false:=by
   show (rI r 8==0)=false
   simpa using h1
  rw[e8] at h
  revert h
  cases (pF.na r 0).Action==1<;>simp
theorem nvR {t:nh} (h:zG t=true) {r:List DC} (hr:r∈t.nI) (h0:rI r 0≠1):rI r 6=0:=by
 unfold zG at h
 cases h1:(len t.nI) != 8
 ·rw[h1,cond_false] at h
  cases h2:qQ (njV t.nI) t.nI 0
  ·obtain⟨i,hi,rfl⟩:=List.getElem_of_mem hr
   have:=nbd h2 i hi
   rw[Nat.zero_add] at this
   have hn:nth t.nI i=t.nI[i]:=by simp [nth,List.getD_eq_getElem?_getD,hi]
   rw[hn] at this
   unfold njV at this
   have e1:((rI t.nI[i] 0) != 1)=true:=by simpa using h0
   rw[e1] at this
   by_cases h6:rI t.nI[i] 6=0
   ·exact h6
   ·have e6:((rI t.nI[i] 6) != 0)=true:=by simpa using h6
    rw[e6] at this
    revert this
    cases ngM t.nI[i]<;>cases nvM t.nI[i]<;>simp
  ·rw[h2] at h;cases h
 ·rw[h1] at h;cases h
theorem nmB {s:nj} {nv:Int} (hg:(bif !(U3 s.oY) then true else bif !(zG s.Table) then true else !(zg s.oO nv))=false):
  (∀r∈s.oY,RL (pF.na r 0)=true)∧zG s.Table=true∧1≤nv:=by
 cases h1:U3 s.oY
 ·rw[h1] at hg;cases hg
 cases h2:zG s.Table
 ·rw[h1,h2] at hg;cases hg
 cases h3:zg s.oO nv
 ·rw[h1,h2,h3] at hg;cases hg
 refine⟨?_,rfl, ?_⟩
 ·unfold U3 at h1
  cases h4:s.oY.all (fun r=>RL (pF.na r 0))
  ·rw[h4] at h1;cases h1
  ·exact fun r hr=>by simpa using List.all_eq_true.1 h4 r hr
 ·unfold zg at h3
  cases h4:nf nv 1 4
  ·rw[h4] at h3;cases h3
  ·exact (n0.1 h4).1
theorem nkK (k_:Bool→α) (s:nj) (nv:Int) (xw:jI nj.ct s.enc):∃N,yK jK k_ N s nv=k_ (sa s nv):=by
 obtain⟨hl,_⟩:=oy (nj.nuj xw)
 obtain⟨jH,_⟩:=oy (nh.Xj (nj.Xk xw))
 refine⟨s.oY.length+s.Table.nI.length+1, ?_⟩
 unfold yK yL sa
 refine pj (fun _=>rfl) (fun hg=> ?_)
 have nxm:sA jK k_ (s.oY.length+s.Table.nI.length+1) nv s.Table.nI (len s.Table.nI) (s.oY.length+s.Table.nI.length+1) 0=bif s.Table.nI.all (fun r=> !(bif (rI r 0)==1 then decide (nv≤rI r 6) else false)) then k_ true else k_ false:=by
  refine (vv s.Table.nI (sA jK k_ (s.oY.length+s.Table.nI.length+1) nv s.Table.nI (len s.Table.nI)) (fun i r c=>bif !(!(bif (rI r 0)==1 then decide (nv≤rI r 6) else false)) then k_ false else c) (k_ true) ?_ ?_ (s.oY.length+s.Table.nI.length+1) (by omega)).trans (Sw (fun r=> !(bif (rI r 0)==1 then decide (nv≤rI r 6) else false)) (k_ false) (k_ true) s.Table.nI 0)
  ·intro n i h
   rw[S5]
   simp only[vq,oV h,nT h,n_ h jH,Int.toNat_natCast,nc,nn,cond_true,Bool.not_not]
  ·intro n
   rw[S5]
   simp only[vq,nQ,cond_false]
 have key:sw jK k_ (s.oY.length+s.Table.nI.length+1) nv s.oY (len s.oY) s.Table.nI (s.oY.length+s.Table.nI.length+1) 0=bif s.oY.all (fun r=> !(bif (rI r 7)==0 then decide (nv≤rI r 8) else false)) then (bif s.Table.nI.all (fun r=> !(bif (rI r 0)==1 then decide (nv≤rI r 6) else false)) then k_ true else k_ false) else k_ false:=by
  refine (vv s.oY (sw jK k_ (s.oY.length+s.Table.nI.length+1) nv s.oY (len s.oY) s.Table.nI) (fun i r c=>bif !(!(bif (rI r 7)==0 then decide (nv≤rI r 8) else false)) then k_ false else c) (bif s.Table.nI.all (fun r=> !(bif (rI r 0)==1 then decide (nv≤rI r 6) else false)) then k_ true else k_ false) ?_ ?_ (s.oY.length+s.Table.nI.length+1) (by omega)).trans (Sw (fun r=> !(bif (rI r 7)==0 then decide (nv≤rI r 8) else false)) (k_ false) _ s.oY 0)
  ·intro n i h
   rw[S4]
   simp only[vp,oV h,nT h,n_ h hl,Int.toNat_natCast,nc,nn,cond_true,Bool.not_not]
  ·intro n
   rw[S4]
   simp only[vp,nQ,cond_false]
   exact nxm
 refine key.trans ?_
 obtain⟨g1,g2,g3⟩:=nmB hg
 rw[niX (l:=s.oY) (q:=fun r=> !(decide (nv≤rI r 8))) (fun r hr=>by
  by_cases h7:rI r 7=0
  ·have e:((rI r 7)==0)=true:=by simpa using h7
   rw[e,cond_true]
  ·have e:((rI r 7)==0)=false:=by simpa using h7
   rw[e,cond_false,nwH (g1 r hr) h7,decide_eq_false (by omega)])]
 rw[niX (l:=s.Table.nI) (q:=fun r=> !(decide (nv≤rI r 6))) (fun r hr=>by
  by_cases h7:rI r 0=1
  ·have e:((rI r 0)==1)=true:=by simpa using h7
   rw[e,cond_true]
  ·have e:((rI r 0)==1)=false:=by simpa using h7
   rw[e,cond_false,nvR g2 hr h7,decide_eq_false (by omega)])]
 cases s.oY.all (fun r=> !(decide (nv≤rI r 8)))
 ·rfl
 ·cases s.Table.nI.all (fun r=> !(decide (nv≤rI r 6)))<;>rfl
def vE (k_:Bool→α) (l1:Int→α) (nv:Int) (Nq sq:Rows) (ov:Int→α) (k:Int):α:=
 bif decide (k<len Nq) then
  bif DF true (idx k Nq) then
   bif decide (nv≤rI (nth Nq (Int.toNat k)) 8) then k_ false
   else ov (nK (k+1))
  else jK
 else l1 0
def vF (k_:Bool→α) (nv:Int) (sq:Rows) (ih1:Int→α) (rv:Int):α:=
 bif decide (rv<len sq) then
  bif DF true (idx rv sq) then
   bif decide (nv≤rI (nth sq (Int.toNat rv)) 6) then k_ false
   else ih1 (nK (rv+1))
  else jK
 else k_ true
def sE (k_:Bool→α) (N:Nat) (nv:Int) (sq:Rows) (m_:Nat):Int→α:=
 Nat.rec (motive:=fun _=>Int→α) (fun _=>jK) (fun _ ih1=>vF jK k_ nv sq ih1) m_
theorem Tj (k_:Bool→α) (N:Nat) (nv:Int) (sq:Rows) (m_:Nat):sE jK k_ N nv sq (m_+1)=vF jK k_ nv sq (sE jK k_ N nv sq m_):=rfl
def sD (k_:Bool→α) (N:Nat) (nv:Int) (Nq sq:Rows) (m_:Nat):Int→α:=
 Nat.rec (motive:=fun _=>Int→α) (fun _=>jK) (fun _ ov=>vE jK k_ (sE jK k_ N nv sq N) nv Nq sq ov) m_
theorem Ti (k_:Bool→α) (N:Nat) (nv:Int) (Nq sq:Rows) (m_:Nat) (k:Int):sD jK k_ N nv Nq sq (m_+1) k=vE jK k_ (sE jK k_ N nv sq N) nv Nq sq (sD jK k_ N nv Nq sq m_) k:=rfl
def za {α:Type} (jK:α) (k_:Bool→α) (l0:Rows→Rows→Int→α) (s:nj) (nv:Int):α:=
 bif bif !(U3 s.oY) then true else bif !(zG s.Table) then true else !(zg s.oO nv) then k_ false
 else l0 s.oY s.Table.nI 0
def y_ (k_:Bool→α) (N:Nat) (s:nj) (nv:Int):α:=za jK k_ (fun Nq sq=>sD jK k_ N nv Nq sq N) s nv
theorem nmp (k_:Bool→α) (s:nj) (nv:Int) (xw:jI nj.ct s.enc):∃N,y_ jK k_ N s nv=k_ (sa s nv):=by
 obtain⟨hl,_⟩:=oy (nj.nuj xw)
 obtain⟨jH,_⟩:=oy (nh.Xj (nj.Xk xw))
 refine⟨s.oY.length+s.Table.nI.length+1, ?_⟩
 unfold y_ za sa
 refine pj (fun _=>rfl) (fun hg=> ?_)
 have nxm:sE jK k_ (s.oY.length+s.Table.nI.length+1) nv s.Table.nI (s.oY.length+s.Table.nI.length+1) 0=bif s.Table.nI.all (fun r=> !(decide (nv≤rI r 6))) then k_ true else k_ false:=by
  refine (vv s.Table.nI (sE jK k_ (s.oY.length+s.Table.nI.length+1) nv s.Table.nI) (fun i r c=>bif !(!(decide (nv≤rI r 6))) then k_ false else c) (k_ true) ?_ ?_ (s.oY.length+s.Table.nI.length+1) (by omega)).trans (Sw (fun r=> !(decide (nv≤rI r 6))) (k_ false) (k_ true) s.Table.nI 0)
  ·intro n i h
   rw[Tj]
   simp only[vF,oV h,nT h,n_ h jH,Int.toNat_natCast,nc,nn,cond_true,Bool.not_not]
  ·intro n
   rw[Tj]
   simp only[vF,nQ,cond_false]
 have key:sD jK k_ (s.oY.length+s.Table.nI.length+1) nv s.oY s.Table.nI (s.oY.length+s.Table.nI.length+1) 0=bif s.oY.all (fun r=> !(decide (nv≤rI r 8))) then (bif s.Table.nI.all (fun r=> !(decide (nv≤rI r 6))) then k_ true else k_ false) else k_ false:=by
  refine (vv s.oY (sD jK k_ (s.oY.length+s.Table.nI.length+1) nv s.oY s.Table.nI) (fun i r c=>bif !(!(decide (nv≤rI r 8))) then k_ false else c) (bif s.Table.nI.all (fun r=> !(decide (nv≤rI r 6))) then k_ true else k_ false) ?_ ?_ (s.oY.length+s.Table.nI.length+1) (by omega)).trans (Sw (fun r=> !(decide (nv≤rI r 8))) (k_ false) _ s.oY 0)
  ·intro n i h
   rw[Ti]
   simp only[vE,oV h,nT h,n_ h hl,Int.toNat_natCast,nc,nn,cond_true,Bool.not_not]
  ·intro n
   rw[Ti]
   simp only[vE,nQ,cond_false]
   exact nxm
 refine key.trans ?_
 cases s.oY.all (fun r=> !(decide (nv≤rI r 8)))
 ·rfl
 ·cases s.Table.nI.all (fun r=> !(decide (nv≤rI r 6)))<;>rfl
def zl (k_:Bool→α) (l1:Int→Rows→Int→α) (n x:Int) (qV qm pB pL pM:Rows) (pR:Bytes) (pN:Rows) (re rh ri rj rk:Int) (ov:Int→α) (nZ:Int):α:=
 let z0:Bool:= !(nkm (nP.na (nth qV (Int.toNat nZ)) 0))
 let z1:Bool:= !(sg (nE.na (nth qm (Int.toNat nZ)) 0))
 let z2:Bool:=DF (DF true (idx nZ qV)) (idx nZ qm)
 bif decide (nZ<x) then
  bif KW z0 (DF true (idx nZ qV)) (KW z1 z2 (DF z2 (idx nZ pB))) then
   bif bif z0 then true else bif z1 then true else !(wg (oc.na (nth pB (Int.toNat nZ)) 0)) then k_ false
   else ov (nK (nZ+1))
  else jK
 else l1 5 ([[.int re],[.int rh],[.int ri],[.int rj],[.int rk]]) 0
def Qt (k_:Bool→α) (n om:Int) (pL pM:Rows) (pR:Bytes) (pN ui:Rows) (ih1:Int→α) (yf:Int):α:=
 bif decide (yf<om) then
  bif DF (DF true (idx yf ui)) (inl (Int.toNat yf) ui) then
   bif !(nf (rI (nth ui (Int.toNat yf)) 0) 0 1000000000000) then k_ false
   else ih1 (nK (yf+1))
  else jK
 else k_ (sa (⟨pL,(⟨pM⟩:nh),(⟨pR,pN⟩:nJ)⟩:nj) n)
def vm (k_:Bool→α) (N:Nat) (n om:Int) (pL pM:Rows) (pR:Bytes) (pN ui:Rows) (m_:Nat):Int→α:=
 Nat.rec (motive:=fun _=>Int→α) (fun _=>jK) (fun _ ih1=>Qt jK k_ n om pL pM pR pN ui ih1) m_
theorem Zm (k_:Bool→α) (N:Nat) (n om:Int) (pL pM:Rows) (pR:Bytes) (pN ui:Rows) (m_:Nat):vm jK k_ N n om pL pM pR pN ui (m_+1)=Qt jK k_ n om pL pM pR pN ui (vm jK k_ N n om pL pM pR pN ui m_):=rfl
def s_ (k_:Bool→α) (N:Nat) (n x:Int) (qV qm pB pL pM:Rows) (pR:Bytes) (pN:Rows) (re rh ri rj rk:Int) (m_:Nat):Int→α:=
 Nat.rec (motive:=fun _=>Int→α) (fun _=>jK) (fun _ ov=>zl jK k_ (fun om ui=>vm jK k_ N n om pL pM pR pN ui N) n x qV qm pB pL pM pR pN re rh ri rj rk ov) m_
theorem Zl (k_:Bool→α) (N:Nat) (n x:Int) (qV qm pB pL pM:Rows) (pR:Bytes) (pN:Rows) (re rh ri rj rk:Int) (m_:Nat) (nZ:Int):s_ jK k_ N n x qV qm pB pL pM pR pN re rh ri rj rk (m_+1) nZ=zl jK k_ (fun om ui=>vm jK k_ N n om pL pM pR pN ui N) n x qV qm pB pL pM pR pN re rh ri rj rk (s_ jK k_ N n x qV qm pB pL pM pR pN re rh ri rj rk m_) nZ:=rfl
def SC (k_:Bool→α) (l0:Int→Int→Rows→Rows→Rows→Rows→Rows→Bytes→Rows→Int→Int→Int→Int→Int→Int→α) (h:nx):α:=
 let z0:Bool:= !(nf (len h.Rx) 1 2)
 let z1:Bool:=(len h.oA) != (len h.Rx)
 let z2:Bool:=(len h.ou) != (len h.Rx)
 bif KW (!(qc h.oB)) true (KW (!(pC h.Maps)) true (KW (!(To h.Tx)) (DF true (NX h.Tx)) (KW (!(wc h.Filter)) (DF true (NX h.Tx)) (KW z0 (DF true (NX h.Tx)) (KW z1 (DF true (NX h.Tx)) (KW z2 (DF true (NX h.Tx)) (DF true (NX h.Tx)))))))) then
  bif bif !(qc h.oB) then true else bif !(pC h.Maps) then true else bif !(To h.Tx) then true else bif !(wc h.Filter) then true else bif z0 then true else bif z1 then true else bif z2 then true else (len h.pk) != (len h.Rx) then k_ false
  else l0 (len h.Rx) (len h.Rx) h.Rx h.oA h.ou h.nA.oY h.nA.Table.nI h.nA.oO.Key h.nA.oO.Table h.Counters.Frames h.Counters.Bad h.Counters.sR h.Counters.uQ h.Counters.PW 0
 else jK
def SB (k_:Bool→α) (N:Nat) (h:nx):α:=SC jK k_ (fun n x qV qm pB pL pM pR pN re rh ri rj rk=>s_ jK k_ N n x qV qm pB pL pM pR pN re rh ri rj rk N) h
def Vp (h:nx):Bool:=NX h.Tx
def xh (h:nx):Rows:=[[.int h.Counters.Frames],[.int h.Counters.Bad],[.int h.Counters.sR],[.int h.Counters.uQ],[.int h.Counters.PW]]
def nwO (h:nx):Bool:=(bif !(qc h.oB) then true else bif !(pC h.Maps) then true else bif !(To h.Tx) then true else bif !(wc h.Filter) then true else bif !(nf (len h.Rx) 1 2) then true else bif (len h.oA) != (len h.Rx) then true else bif (len h.ou) != (len h.Rx) then true else (len h.pk) != (len h.Rx))
def nbc (h:nx):Bool:=bif nwO h then false else bif sa h.nA (len h.Rx) then bif zi (fun i=>bif !(nkm (nP.na (nth h.Rx i) 0)) then true else bif !(sg (nE.na (nth h.oA i) 0)) then true else !(wg (oc.na (nth h.ou i) 0))) h.Rx.length 0 then false else (xh h).all (fun r=>nf (rI r 0) 0 1000000000000) else false
theorem nine:∀a b c d e f g i j:Bool,(bif a then true else bif b then true else bif c then true else bif d then true else bif e then true else bif f then true else bif g then true else bif i then true else j)=(bif (bif a then true else bif b then true else bif c then true else bif d then true else bif e then true else bif f then true else bif g then true else i) then true else j):=by decide
theorem nur (k_:Bool→α) (h:nx) (aF:Vp h=true):∃N,SB jK k_ N h=k_ (nbc h):=by
 have hq:NX h.Tx=true:=aF
 refine⟨h.Rx.length+6, ?_⟩
 unfold SB SC nbc
 simp only[hq,nc,nn,zx,cond_true]
 refine pj (fun _=>rfl) (fun hg=> ?_)
 have hn:h.Rx.length≤2∧len h.oA=len h.Rx∧len h.ou=len h.Rx:=by
  unfold nwO at hg
  cases h5:nf (len h.Rx) 1 2
  ·rw[h5] at hg
   revert hg
   cases qc h.oB<;>cases pC h.Maps<;>cases To h.Tx<;>cases wc h.Filter<;>simp
  ·have b:=(n0.1 h5).2
   by_cases e1:len h.oA=len h.Rx
   ·by_cases e2:len h.ou=len h.Rx
    ·exact⟨by simp only[len] at b;omega,e1,e2⟩
    ·have e2:((len h.ou) != (len h.Rx))=true:=by simpa using e2
     rw[e2] at hg
     revert hg
     cases qc h.oB<;>cases pC h.Maps<;>cases To h.Tx<;>cases wc h.Filter<;>cases nf (len h.Rx) 1 2<;>cases ((len h.oA) != (len h.Rx))<;>simp
   ·have e1:((len h.oA) != (len h.Rx))=true:=by simpa using e1
    rw[e1] at hg
    revert hg
    cases qc h.oB<;>cases pC h.Maps<;>cases To h.Tx<;>cases wc h.Filter<;>cases nf (len h.Rx) 1 2<;>simp
 obtain⟨hn,hp,hv⟩:=hn
 have hc5:(xh h).length=5:=rfl
 have nxm:vm jK k_ (h.Rx.length+6) (len h.Rx) 5 h.nA.oY h.nA.Table.nI h.nA.oO.Key h.nA.oO.Table (xh h) (h.Rx.length+6) 0=bif (xh h).all (fun r=>nf (rI r 0) 0 1000000000000) then (k_ (sa h.nA (len h.Rx))) else k_ false:=by
  refine (vv (xh h) (vm jK k_ (h.Rx.length+6) (len h.Rx) 5 h.nA.oY h.nA.Table.nI h.nA.oO.Key h.nA.oO.Table (xh h)) (fun i r c=>bif !(nf (rI r 0) 0 1000000000000) then k_ false else c) ((k_ (sa h.nA (len h.Rx)))) ?_ ?_ (h.Rx.length+6) (by omega)).trans (Sw (fun r=>nf (rI r 0) 0 1000000000000) (k_ false) ((k_ (sa h.nA (len h.Rx)))) (xh h) 0)
  ·intro n i hi
   rw[Zm]
   have w1:nK ((i:Int)+1)=(i:Int)+1:=nF (by omega) (by omega)
   have hd:decide ((i:Int)<5)=true:=decide_eq_true (by omega)
   simp only[Qt,hd,nT hi,vL hi,w1,Int.toNat_natCast,nc,nn,cond_true]
  ·intro n
   rw[Zm]
   rfl
 have key:s_ jK k_ (h.Rx.length+6) (len h.Rx) (len h.Rx) h.Rx h.oA h.ou h.nA.oY h.nA.Table.nI h.nA.oO.Key h.nA.oO.Table h.Counters.Frames h.Counters.Bad h.Counters.sR h.Counters.uQ h.Counters.PW (h.Rx.length+6) 0=bif zi (fun i=>bif !(nkm (nP.na (nth h.Rx i) 0)) then true else bif !(sg (nE.na (nth h.oA i) 0)) then true else !(wg (oc.na (nth h.ou i) 0))) h.Rx.length 0 then k_ false else (bif (xh h).all (fun r=>nf (rI r 0) 0 1000000000000) then (k_ (sa h.nA (len h.Rx))) else k_ false):=by
  refine (nl4 (σ:=Unit) h.Rx.length (fun n i _=>s_ jK k_ (h.Rx.length+6) (len h.Rx) (len h.Rx) h.Rx h.oA h.ou h.nA.oY h.nA.Table.nI h.nA.oO.Key h.nA.oO.Table h.Counters.Frames h.Counters.Bad h.Counters.sR h.Counters.uQ h.Counters.PW n i) (fun i c s=>bif bif !(nkm (nP.na (nth h.Rx i) 0)) then true else bif !(sg (nE.na (nth h.oA i) 0)) then true else !(wg (oc.na (nth h.ou i) 0)) then k_ false else c s) (fun _=>bif (xh h).all (fun r=>nf (rI r 0) 0 1000000000000) then (k_ (sa h.nA (len h.Rx))) else k_ false) ?_ ?_ (h.Rx.length+6) () (by omega)).trans (nrL (fun i=>bif !(nkm (nP.na (nth h.Rx i) 0)) then true else bif !(sg (nE.na (nth h.oA i) 0)) then true else !(wg (oc.na (nth h.ou i) 0))) (k_ false) _ h.Rx.length 0)
  ·intro n i s hi
   show s_ jK k_ (h.Rx.length+6) (len h.Rx) (len h.Rx) h.Rx h.oA h.ou h.nA.oY h.nA.Table.nI h.nA.oO.Key h.nA.oO.Table h.Counters.Frames h.Counters.Bad h.Counters.sR h.Counters.uQ h.Counters.PW (n+1) (i:Int)=_
   rw[Zl]
   have w1:nK ((i:Int)+1)=(i:Int)+1:=nF (by omega) (by omega)
   have p1:idx (i:Int) h.Rx=true:=nT hi
   have p2:idx (i:Int) h.oA=true:=nT (by simp only[len] at hp;omega)
   have p3:idx (i:Int) h.ou=true:=nT (by simp only[len] at hv;omega)
   have p0:decide ((i:Int)<len h.Rx)=true:=oV hi
   simp only[zl,p0,p1,p2,p3,w1,Int.toNat_natCast,nc,nn,zx,cond_true]
  ·intro n s
   show s_ jK k_ (h.Rx.length+6) (len h.Rx) (len h.Rx) h.Rx h.oA h.ou h.nA.oY h.nA.Table.nI h.nA.oO.Key h.nA.oO.Table h.Counters.Frames h.Counters.Bad h.Counters.sR h.Counters.uQ h.Counters.PW (n+1) (h.Rx.length:Int)=_
   rw[Zl]
   have p0:decide ((h.Rx.length:Int)<len h.Rx)=false:=nQ h.Rx
   simp only[zl,p0,cond_false]
   exact nxm
 refine key.trans ?_
 cases sa h.nA (len h.Rx)
 ·cases zi (fun i=>bif !(nkm (nP.na (nth h.Rx i) 0)) then true else bif !(sg (nE.na (nth h.oA i) 0)) then true else !(wg (oc.na (nth h.ou i) 0))) h.Rx.length 0
  ·cases (xh h).all (fun r=>nf (rI r 0) 0 1000000000000)<;>rfl
  ·rfl
 ·cases zi (fun i=>bif !(nkm (nP.na (nth h.Rx i) 0)) then true else bif !(sg (nE.na (nth h.oA i) 0)) then true else !(wg (oc.na (nth h.ou i) 0))) h.Rx.length 0
  ·cases (xh h).all (fun r=>nf (rI r 0) 0 1000000000000)<;>rfl
  ·rfl
def zz (k_:Bool→α) (l1:Rows→Int→α) (n:Int) (qV qm pB:Rows) (re rh ri rj rk:Int) (ov:Int→α) (k:Int):α:=
 let z0:Bool:= !(nkm (nP.na (nth qV (Int.toNat k)) 0))
 let z1:Bool:= !(sg (nE.na (nth qm (Int.toNat k)) 0))
 let z2:Bool:=DF (DF true (idx k qV)) (idx k qm)
 bif decide (k<n) then
  bif KW z0 (DF true (idx k qV)) (KW z1 z2 (DF z2 (idx k pB))) then
   bif bif z0 then true else bif z1 then true else !(wg (oc.na (nth pB (Int.toNat k)) 0)) then k_ false
   else ov (nK (k+1))
  else jK
 else l1 ([[.int re],[.int rh],[.int ri],[.int rj],[.int rk]]) 0
def Ri (k_:Bool→α) (list_:Rows) (ih1:Int→α) (rv:Int):α:=
 bif decide (rv<len list_) then
  bif DF (DF true (idx rv list_)) (inl (Int.toNat rv) list_) then
   bif !(nf (rI (nth list_ (Int.toNat rv)) 0) 0 1000000000000) then k_ false
   else ih1 (nK (rv+1))
  else jK
 else k_ true
def vy (k_:Bool→α) (N:Nat) (list_:Rows) (m_:Nat):Int→α:=
 Nat.rec (motive:=fun _=>Int→α) (fun _=>jK) (fun _ ih1=>Ri jK k_ list_ ih1) m_
theorem naW (k_:Bool→α) (N:Nat) (list_:Rows) (m_:Nat):vy jK k_ N list_ (m_+1)=Ri jK k_ list_ (vy jK k_ N list_ m_):=rfl
def tk (k_:Bool→α) (N:Nat) (n:Int) (qV qm pB:Rows) (re rh ri rj rk:Int) (m_:Nat):Int→α:=
 Nat.rec (motive:=fun _=>Int→α) (fun _=>jK) (fun _ ov=>zz jK k_ (fun list_=>vy jK k_ N list_ N) n qV qm pB re rh ri rj rk ov) m_
theorem naV (k_:Bool→α) (N:Nat) (n:Int) (qV qm pB:Rows) (re rh ri rj rk:Int) (m_:Nat) (k:Int):tk jK k_ N n qV qm pB re rh ri rj rk (m_+1) k=zz jK k_ (fun list_=>vy jK k_ N list_ N) n qV qm pB re rh ri rj rk (tk jK k_ N n qV qm pB re rh ri rj rk m_) k:=rfl
def SR (k_:Bool→α) (l0:Int→Rows→Rows→Rows→Int→Int→Int→Int→Int→Int→α) (h:nx):α:=
 let z0:Bool:= !(nf (len h.Rx) 1 2)
 let z1:Bool:=(len h.oA) != (len h.Rx)
 let z2:Bool:=(len h.ou) != (len h.Rx)
 let z3:Bool:=(len h.pk) != (len h.Rx)
 bif KW (!(qc h.oB)) true (KW (!(pC h.Maps)) true (KW (!(To h.Tx)) (DF true (NX h.Tx)) (KW (!(wc h.Filter)) (DF true (NX h.Tx)) (KW z0 (DF true (NX h.Tx)) (KW z1 (DF true (NX h.Tx)) (KW z2 (DF true (NX h.Tx)) (KW z3 (DF true (NX h.Tx)) (DF true (NX h.Tx))))))))) then
  bif bif !(qc h.oB) then true else bif !(pC h.Maps) then true else bif !(To h.Tx) then true else bif !(wc h.Filter) then true else bif z0 then true else bif z1 then true else bif z2 then true else bif z3 then true else !(sa h.nA (len h.Rx)) then k_ false
  else l0 (len h.Rx) h.Rx h.oA h.ou h.Counters.Frames h.Counters.Bad h.Counters.sR h.Counters.uQ h.Counters.PW 0
 else jK
def SQ (k_:Bool→α) (N:Nat) (h:nx):α:=SR jK k_ (fun n qV qm pB re rh ri rj rk=>tk jK k_ N n qV qm pB re rh ri rj rk N) h
theorem nvl (k_:Bool→α) (h:nx) (aF:Vp h=true):∃N,SQ jK k_ N h=k_ (nbc h):=by
 have hq:NX h.Tx=true:=aF
 refine⟨h.Rx.length+6, ?_⟩
 unfold SQ SR nbc
 simp only[hq,nc,nn,zx,cond_true]
 rw[nine]
 show (bif (bif nwO h then true else !(sa h.nA (len h.Rx))) then k_ false else _)=_
 rcases Bool.eq_false_or_eq_true (nwO h) with hg | hg
 ·rw[hg];rfl
 rcases Bool.eq_false_or_eq_true (sa h.nA (len h.Rx)) with hs | hs
 case inr=>
  rw[hg,hs];rfl
 simp only[hg,hs,Bool.not_true,cond_false,cond_true]
 have hn:h.Rx.length≤2∧len h.oA=len h.Rx∧len h.ou=len h.Rx:=by
  unfold nwO at hg
  cases h5:nf (len h.Rx) 1 2
  ·rw[h5] at hg
   revert hg
   cases qc h.oB<;>cases pC h.Maps<;>cases To h.Tx<;>cases wc h.Filter<;>simp
  ·have b:=(n0.1 h5).2
   by_cases e1:len h.oA=len h.Rx
   ·by_cases e2:len h.ou=len h.Rx
    ·exact⟨by simp only[len] at b;omega,e1,e2⟩
    ·have e2:((len h.ou) != (len h.Rx))=true:=by simpa using e2
     rw[e2] at hg
     revert hg
     cases qc h.oB<;>cases pC h.Maps<;>cases To h.Tx<;>cases wc h.Filter<;>cases nf (len h.Rx) 1 2<;>cases ((len h.oA) != (len h.Rx))<;>simp
   ·have e1:((len h.oA) != (len h.Rx))=true:=by simpa using e1
    rw[e1] at hg
    revert hg
    cases qc h.oB<;>cases pC h.Maps<;>cases To h.Tx<;>cases wc h.Filter<;>cases nf (len h.Rx) 1 2<;>simp
 obtain⟨hn,hp,hv⟩:=hn
 have hc5:(xh h).length=5:=rfl
 have nxm:vy jK k_ (h.Rx.length+6) (xh h) (h.Rx.length+6) 0=bif (xh h).all (fun r=>nf (rI r 0) 0 1000000000000) then (k_ true) else k_ false:=by
  refine (vv (xh h) (vy jK k_ (h.Rx.length+6) (xh h)) (fun i r c=>bif !(nf (rI r 0) 0 1000000000000) then k_ false else c) ((k_ true)) ?_ ?_ (h.Rx.length+6) (by omega)).trans (Sw (fun r=>nf (rI r 0) 0 1000000000000) (k_ false) ((k_ true)) (xh h) 0)
  ·intro n i hi
   rw[naW]
   have w1:nK ((i:Int)+1)=(i:Int)+1:=nF (by omega) (by omega)
   simp only[Ri,oV hi,nT hi,vL hi,w1,Int.toNat_natCast,nc,nn,cond_true]
  ·intro n
   rw[naW]
   rfl
 have key:tk jK k_ (h.Rx.length+6) (len h.Rx) h.Rx h.oA h.ou h.Counters.Frames h.Counters.Bad h.Counters.sR h.Counters.uQ h.Counters.PW (h.Rx.length+6) 0=bif zi (fun i=>bif !(nkm (nP.na (nth h.Rx i) 0)) then true else bif !(sg (nE.na (nth h.oA i) 0)) then true else !(wg (oc.na (nth h.ou i) 0))) h.Rx.length 0 then k_ false else (bif (xh h).all (fun r=>nf (rI r 0) 0 1000000000000) then (k_ true) else k_ false):=by
  refine (nl4 (σ:=Unit) h.Rx.length (fun n i _=>tk jK k_ (h.Rx.length+6) (len h.Rx) h.Rx h.oA h.ou h.Counters.Frames h.Counters.Bad h.Counters.sR h.Counters.uQ h.Counters.PW n i) (fun i c s=>bif bif !(nkm (nP.na (nth h.Rx i) 0)) then true else bif !(sg (nE.na (nth h.oA i) 0)) then true else !(wg (oc.na (nth h.ou i) 0)) then k_ false else c s) (fun _=>bif (xh h).all (fun r=>nf (rI r 0) 0 1000000000000) then (k_ true) else k_ false) ?_ ?_ (h.Rx.length+6) () (by omega)).trans (nrL (fun i=>bif !(nkm (nP.na (nth h.Rx i) 0)) then true else bif !(sg (nE.na (nth h.oA i) 0)) then true else !(wg (oc.na (nth h.ou i) 0))) (k_ false) _ h.Rx.length 0)
  ·intro n i s hi
   show tk jK k_ (h.Rx.length+6) (len h.Rx) h.Rx h.oA h.ou h.Counters.Frames h.Counters.Bad h.Counters.sR h.Counters.uQ h.Counters.PW (n+1) (i:Int)=_
   rw[naV]
   have w1:nK ((i:Int)+1)=(i:Int)+1:=nF (by omega) (by omega)
   have p1:idx (i:Int) h.Rx=true:=nT hi
   have p2:idx (i:Int) h.oA=true:=nT (by simp only[len] at hp;omega)
   have p3:idx (i:Int) h.ou=true:=nT (by simp only[len] at hv;omega)
   have p0:decide ((i:Int)<len h.Rx)=true:=oV hi
   simp only[zz,p0,p1,p2,p3,w1,Int.toNat_natCast,nc,nn,zx,cond_true]
  ·intro n s
   show tk jK k_ (h.Rx.length+6) (len h.Rx) h.Rx h.oA h.ou h.Counters.Frames h.Counters.Bad h.Counters.sR h.Counters.uQ h.Counters.PW (n+1) (h.Rx.length:Int)=_
   rw[naV]
   have p0:decide ((h.Rx.length:Int)<len h.Rx)=false:=nQ h.Rx
   simp only[zz,p0,cond_false]
   exact nxm
 refine key.trans ?_
 cases zi (fun i=>bif !(nkm (nP.na (nth h.Rx i) 0)) then true else bif !(sg (nE.na (nth h.oA i) 0)) then true else !(wg (oc.na (nth h.ou i) 0))) h.Rx.length 0
 ·cases (xh h).all (fun r=>nf (rI r 0) 0 1000000000000)<;>rfl
 ·rfl
theorem nvJ:∀(a:Rows) (l:Int),(∀r∈a,jI pe.ct r)→0≤l→l≤1048576→0≤nwv (fun r l=>rO (pe.na r 0) l) a l→(nd6 a:Int)≤l
 | [],l,_,h,_,_=>by simpa [nd6] using h
 | r::rs,l,hw,h,h',h0=>by
  simp only[nwv] at h0
  have hr:Gk (.sl [.int .i64]) (.sl (rR r 2)):=by
   have:=hw r (by simp)
   rw[←pe.eta this] at this
   exact pe.nug this
  obtain⟨e,hl⟩:=ngO h h' (oy hr).1
  have hs:rO (pe.na r 0) l=bif decide (l - len (rR r 2)<0) then -1 else l - len (rR r 2):=by
   unfold rO SH oe
   show (bif decide ((bif decide (nK (l - len (rR r 2))<0) then -1 else nK (l - len (rR r 2)))<0) then id (-1) else id (bif decide (nK (l - len (rR r 2))<0) then -1 else nK (l - len (rR r 2))))=_
   rw[e]
   by_cases hn:l - len (rR r 2)<0
   ·simp [hn]
   ·simp [hn]
  by_cases hn:l - len (rR r 2)<0
  ·simp [hs,hn] at h0
  ·have hs:rO (pe.na r 0) l=l - len (rR r 2):=by simp [hs,hn]
   have hn':¬rO (pe.na r 0) l<0:=by omega
   simp only[hn',decide_false,cond_false] at h0
   rw[hs] at h0
   have ih:=nvJ rs (l - len (rR r 2)) (fun x hx=>hw x (by simp [hx])) (by omega) (by omega) h0
   simp only[nd6]
   simp only[len] at ih hn
   omega
theorem nww {a:Rows} {left:Int} (vQ:Gk (.sl [.int .i64,.int .i64,.sl [.int .i64]]) (.sl a)) (h1:0≤left) (h2:left≤1048576) (h0:0≤tc a left):nd6 a≤1048576:=by
 obtain⟨hl,hw⟩:=oy vQ
 obtain⟨e,h3⟩:=ngO h1 h2 hl
 simp only[tc,U1,e] at h0
 by_cases hn:left - len a<0
 ·simp [hn] at h0
 ·simp only[hn,decide_false,cond_false] at h0
  have:=nvJ a (left - len a) hw (by omega) (by omega) h0
  omega
theorem nzd {a:ng} {left:Int} (vQ:jI ng.ct a.enc) (h1:0≤left) (h2:left≤1048576) (h0:0≤n8 a left):NX a=true:=by
 simp only[n8,xn,id] at h0
 by_cases c0:qF a.n7 left<0
 ·simp only[c0,decide_true,cond_true] at h0;omega
 simp only[c0,decide_false,cond_false] at h0
 have k0:=QP (ng.nrS vQ) h1 h2 (Int.not_lt.1 c0)
 by_cases c1:tc a.ni (qF a.n7 left)<0
 ·simp only[c1,decide_true,cond_true] at h0;omega
 have k1:=TS (ng.zF vQ) (Int.not_lt.1 c0) k0.1 (Int.not_lt.1 c1)
 have k2:=nww (ng.zF vQ) (Int.not_lt.1 c0) k0.1 (Int.not_lt.1 c1)
 have f1:a.n7.py.length≤1048576:=by
  have hw:=(oy (nE.nrP (ng.nrS vQ))).1
  obtain⟨e,hl⟩:=ngO h1 h2 hw
  simp only[qF,SG,id,oe,e] at c0
  by_cases hn:left - len a.n7.py<0
  ·simp [hn] at c0
  ·simp only[len] at hn;omega
 have f2:sm a.ni=true:=by
  have:=k1.2
  simp only[tG,Bool.and_eq_true] at this
  exact this.1
 simp only[NX,f2,Bool.true_and,Bool.and_eq_true,decide_eq_true_eq]
 omega
theorem nx6 {a:nx} {left:Int} (vQ:jI nx.ct a.enc) (h1:0≤left) (h2:left≤1048576) (h0:0≤ur a left):Vp a=true:=by
 simp only[ur,Of,id] at h0
 by_cases c0:oa a.oB left<0
 ·simp only[c0,decide_true,cond_true] at h0;omega
 simp only[c0,decide_false,cond_false] at h0
 have k0:=Sa (nx.noH vQ) h1 h2 (Int.not_lt.1 c0)
 by_cases c1:oe a.Maps (oa a.oB left)<0
 ·simp only[c1,decide_true,cond_true] at h0;omega
 simp only[c1,decide_false,cond_false] at h0
 have k1:=sM (Int.not_lt.1 c0) k0.1 (oy (nx.nrR vQ)).1 (Int.not_lt.1 c1)
 by_cases c2:n8 a.Tx (oe a.Maps (oa a.oB left))<0
 ·simp only[c2,decide_true,cond_true] at h0;omega
 exact nzd (nx.nxZ vQ) (Int.not_lt.1 c1) k1.1 (Int.not_lt.1 c2)
def O_ (k_:Bytes→α) (n x:Int) (ov:Int→Rows→α) (i:Int) (nD:Rows):α:=
 bif decide (i<n) then
  bif DF (DF true (idx i nD)) (inl (Int.toNat i) nD) then
   ov (nK (i+1)) (List.set nD (Int.toNat i) (bF (nth nD (Int.toNat i)) 0 [.int x]))
  else jK
 else k_ (toStr nD)
def O9 (k_:Bytes→α) (N:Nat) (n x:Int) (m_:Nat):Int→Rows→α:=
 Nat.rec (motive:=fun _=>Int→Rows→α) (fun _ _=>jK) (fun _ ov=>O_ jK k_ n x ov) m_
theorem YB (k_:Bytes→α) (N:Nat) (n x:Int) (m_:Nat):O9 jK k_ N n x (m_+1)=O_ jK k_ n x (O9 jK k_ N n x m_):=rfl
def W5 (k_:Bytes→α) (l0:Int→Rows→α) (n x:Int):α:=
 bif DF true (xo 1 n n) then
  l0 0 (List.replicate (Int.toNat n) ([.int 0]:List DC))
 else jK
def ngk (k_:Bytes→α) (N:Nat) (n x:Int):α:=W5 jK k_ (O9 jK k_ N n x N) n x
def RR (n x:Int):Bool:=bif decide (0≤n) then decide (n≤1000) else false
def OO (n x:Int):Bytes:=List.replicate n.toNat (UInt8.ofNat x.toNat)
theorem nds (n:Nat) {x:Int} (h0:0≤x) (h1:x≤255):(List.replicate n [DC.int x]:Rows)=ofStr (List.replicate n (UInt8.ofNat x.toNat)):=by
 simp only[ofStr,List.map_replicate,nx_ h0 h1]
theorem ntP (k_:Bytes→α) (n x:Int) (h_x:Gk (.int .u8) (.int x)) (aF:RR n x=true):∃N,ngk jK k_ N n x=k_ (OO n x):=by
 obtain⟨h0,h1⟩:=n0.1 aF
 have hx:0≤x∧x≤255:=by
  have h:=h_x
  simp only[Gk,DC.int.injEq] at h
  obtain⟨m,rfl,h⟩:=h
  simpa [Be,IntKind.min,IntKind.max,IntKind.signed,IntKind.bits] using h
 refine⟨n.toNat+1, ?_⟩
 unfold ngk W5 OO
 have hmk:xo 1 n n=true:=by simp only[xo,Bool.and_eq_true,decide_eq_true_eq];omega
 simp only[hmk,nc,cond_true]
 have hr:(List.replicate n.toNat [DC.int 0]:Rows).length=n.toNat:=by simp
 have:=nwW (List.replicate n.toNat [DC.int 0]) (O9 jK k_ (n.toNat+1) n x) (fun o=>k_ (toStr o)) (fun _=>[.int x]) ?_ ?_
 ·rw[hr] at this
  rw[this,List.map_replicate,nds _ hx.1 hx.2,YI]
 ·intro q i o h ho hn
  rw[hr] at h
  rw[YB]
  have A3:i<o.length:=by rw[ho,hr];exact h
  have en:nth o i=[DC.int 0]:=by
   rw[hn]
   simp only[nth,List.getD_eq_getElem?_getD]
   rw[List.getElem?_replicate_of_lt h]
   rfl
  simp only[O_,decide_eq_true (show (i:Int)<n by omega),nT A3,vL A3,Int.toNat_natCast,nc,cond_true,en,nud,nF (show -9223372036854775808≤(i:Int)+1 by omega) (show (i:Int)+1≤9223372036854775807 by omega)]
 ·intro q o ho
  rw[hr,YB]
  simp only[O_,decide_eq_false (show ¬((n.toNat:Nat):Int)<n by omega),cond_false]
def nl7 (b n:Int):Bytes:=OO n b
def ng1 (b n:Int):Bool:=RR n b
def QG (k_:Bytes→α) (b x:Int) (ov:Int→Rows→α) (nZ:Int) (nD:Rows):α:=
 bif decide (nZ<x) then
  bif DF (DF true (idx nZ nD)) (inl (Int.toNat nZ) nD) then
   ov (nK (nZ+1)) (List.set nD (Int.toNat nZ) (bF (nth nD (Int.toNat nZ)) 0 [.int b]))
  else jK
 else k_ (toStr nD)
def QF (k_:Bytes→α) (N:Nat) (b x:Int) (m_:Nat):Int→Rows→α:=
 Nat.rec (motive:=fun _=>Int→Rows→α) (fun _ _=>jK) (fun _ ov=>QG jK k_ b x ov) m_
theorem Zw (k_:Bytes→α) (N:Nat) (b x:Int) (m_:Nat):QF jK k_ N b x (m_+1)=QG jK k_ b x (QF jK k_ N b x m_):=rfl
def YR (k_:Bytes→α) (l0:Int→Int→Rows→α) (b n:Int):α:=
 bif DF true (xo 1 n n) then
  l0 (len (List.replicate (Int.toNat n) ([.int 0]:List DC))) 0 (List.replicate (Int.toNat n) ([.int 0]:List DC))
 else jK
def nib (k_:Bytes→α) (N:Nat) (b n:Int):α:=YR jK k_ (fun x=>QF jK k_ N b x N) b n
theorem nuB (k_:Bytes→α) (b n:Int) (h_b:Gk (.int .u8) (.int b)) (aF:ng1 b n=true):∃N,nib jK k_ N b n=k_ (nl7 b n):=by
 obtain⟨h0,h1⟩:=n0.1 (show (bif decide (0≤n) then decide (n≤1000) else false)=true from aF)
 have hx:0≤b∧b≤255:=by
  have h:=h_b
  simp only[Gk,DC.int.injEq] at h
  obtain⟨m,rfl,h⟩:=h
  simpa [Be,IntKind.min,IntKind.max,IntKind.signed,IntKind.bits] using h
 refine⟨n.toNat+1, ?_⟩
 unfold nib YR nl7 OO
 have hmk:xo 1 n n=true:=by simp only[xo,Bool.and_eq_true,decide_eq_true_eq];omega
 simp only[hmk,nc,cond_true]
 have hr:(List.replicate n.toNat [DC.int 0]:Rows).length=n.toNat:=by simp
 have hn:(len (List.replicate n.toNat [DC.int 0]):Int)=n:=by simp only[len,hr];omega
 rw[hn]
 have:=nwW (List.replicate n.toNat [DC.int 0]) (QF jK k_ (n.toNat+1) b n) (fun o=>k_ (toStr o)) (fun _=>[.int b]) ?_ ?_
 ·rw[hr] at this
  rw[this,List.map_replicate,nds _ hx.1 hx.2,YI]
 ·intro q i o h ho hn
  rw[hr] at h
  rw[Zw]
  have A3:i<o.length:=by rw[ho,hr];exact h
  have en:nth o i=[DC.int 0]:=by
   rw[hn]
   simp only[nth,List.getD_eq_getElem?_getD]
   rw[List.getElem?_replicate_of_lt h]
   rfl
  simp only[QG,decide_eq_true (show (i:Int)<n by omega),nT A3,vL A3,Int.toNat_natCast,nc,cond_true,en,nud,nF (show -9223372036854775808≤(i:Int)+1 by omega) (show (i:Int)+1≤9223372036854775807 by omega)]
 ·intro q o ho
  rw[hr,Zw]
  simp only[QG,decide_eq_false (show ¬((n.toNat:Nat):Int)<n by omega),cond_false]
end
end Go.Proofs.YtngbcccnjiaddaaGreat.Pl
