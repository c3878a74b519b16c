/- The contracts of functions of the program: each computes what its plain form says. Conditions: none. -/
import Derived.Test.YthpmalpdnnbkgaaGreatPHt
import Derived.Test.YthpmalpdnnbkgaaGreatRows
import Derived.Test.YthpmalpdnnbkgaaGreatBHm
import Derived.Test.YthpmalpdnnbkgaaGreatBHl
import Derived.Test.YthpmalpdnnbkgaaGreatBMo
set_option linter.unusedVariables false
set_option linter.unusedSimpArgs false
set_option maxRecDepth 100000
namespace Go.Proofs.YthpmalpdnnbkgaaGreat.Pl
open Vm
noncomputable section
def HZ:Sum:= {ps:=[⟨[.sl [.str]],true⟩],rs:=[⟨[.own 9 [.str]],true⟩],fn:=fun ds=>(V1 (aK.ae ds 0),aK.enc (ca (aK.ae ds 0)))}
def OS:Ctx:=[]
theorem agc:ai Tryz.prog OS:=aq
def OT:List (Nat×dv):=[]
theorem agd (N:Nat) (m:aK):bg Tryz.prog OS OT N Tryz.f116 HZ (m.enc++([]))=H0 Vm.bad (fun r0=>((true,aK.enc r0):aV)) m:=by kernel_rfl
theorem age:Holds Tryz.prog 116 HZ:=by
 refine aa (A:=OT) agc Tryz.func116 rfl (by kernel_rfl) (of_decide_eq_true (by kernel_rfl)) (of_decide_eq_true (by kernel_rfl)) ?_
 intro ds hw hok
 replace hw:WtL (aK.ct++([])) ds:=hw
 obtain⟨m,ds,rfl,h_m,hw⟩:=aK.aZ (r:=_) hw
 obtain rfl:=of_wt_nil hw
 exact⟨0,((agd 0 m).trans (agf Vm.bad _ m h_m hok)).trans (by kernel_rfl)⟩
def H2:Sum:= {ps:=[⟨[.int .i64,.bool,.sl [.int .i64]],true⟩],rs:=[⟨[.imm (.int .i64),.imm .bool,.own 3 [.int .i64]],true⟩],fn:=fun ds=>(RP (aI.ae ds 0),aI.enc (ca (aI.ae ds 0)))}
def OU:Ctx:=[]
theorem agh:ai Tryz.prog OU:=aq
def OV:List (Nat×dv):=[]
theorem agi (N:Nat) (f:aI):bg Tryz.prog OU OV N Tryz.f119 H2 (f.enc++([]))=H3 Vm.bad (fun r0=>((true,aI.enc r0):aV)) f:=by kernel_rfl
theorem agj:Holds Tryz.prog 119 H2:=by
 refine aa (A:=OV) agh Tryz.func119 rfl (by kernel_rfl) (of_decide_eq_true (by kernel_rfl)) (of_decide_eq_true (by kernel_rfl)) ?_
 intro ds hw hok
 replace hw:WtL (aI.ct++([])) ds:=hw
 obtain⟨f,ds,rfl,Nb,hw⟩:=aI.aZ (r:=_) hw
 obtain rfl:=of_wt_nil hw
 exact⟨0,((agi 0 f).trans (agk Vm.bad _ f Nb hok)).trans (by kernel_rfl)⟩
def BU:Sum:= {ps:=[⟨[.int .i64,.bool,.sl [.int .i64]],true⟩],rs:=[⟨[.imm (.int .i64),.imm .bool,.own 3 [.int .i64]],true⟩],fn:=fun ds=>(RP (aI.ae ds 0),aI.enc (ca (aI.ae ds 0)))}
def JH:Ctx:=[(42,lh)]
theorem V2:ai Tryz.prog JH:=ab uj aq
def JI:List (Nat×dv):=[]
theorem V3 (N:Nat) (f:aI):bg Tryz.prog JH JI N Tryz.f135 BU (f.enc++([]))=BV Vm.bad (fun r0=>((true,aI.enc r0):aV)) f:=by kernel_rfl
theorem V4:Holds Tryz.prog 135 BU:=by
 refine aa (A:=JI) V2 Tryz.func135 rfl (by kernel_rfl) (of_decide_eq_true (by kernel_rfl)) (of_decide_eq_true (by kernel_rfl)) ?_
 intro ds hw hok
 replace hw:WtL (aI.ct++([])) ds:=hw
 obtain⟨f,ds,rfl,Nb,hw⟩:=aI.aZ (r:=_) hw
 obtain rfl:=of_wt_nil hw
 exact⟨0,((V3 0 f).trans (V5 Vm.bad _ f Nb hok)).trans (by kernel_rfl)⟩
def H4:Sum:= {ps:=[⟨[.sl [.int .i64,.int .i64,.int .i64,.int .i64,.int .i64,.int .i64,.int .i64]],true⟩],rs:=[⟨[.own 242 [.int .i64,.int .i64,.int .i64,.int .i64,.int .i64,.int .i64,.int .i64]],true⟩],fn:=fun ds=>(RQ (ag.ae ds 0),ag.enc (ca (ag.ae ds 0)))}
def OW:Ctx:=[]
theorem agl:ai Tryz.prog OW:=aq
def OX:List (Nat×dv):=[]
theorem agm (N:Nat) (t:ag):bg Tryz.prog OW OX N Tryz.f170 H4 (t.enc++([]))=H5 Vm.bad (fun r0=>((true,ag.enc r0):aV)) t:=by kernel_rfl
theorem agn:Holds Tryz.prog 170 H4:=by
 refine aa (A:=OX) agl Tryz.func170 rfl (by kernel_rfl) (of_decide_eq_true (by kernel_rfl)) (of_decide_eq_true (by kernel_rfl)) ?_
 intro ds hw hok
 replace hw:WtL (ag.ct++([])) ds:=hw
 obtain⟨t,ds,rfl,h_t,hw⟩:=ag.aZ (r:=_) hw
 obtain rfl:=of_wt_nil hw
 exact⟨0,((agm 0 t).trans (ago Vm.bad _ t h_t hok)).trans (by kernel_rfl)⟩
def D6:Sum:= {ps:=[⟨[.sl [.int .i64,.int .i64,.int .i64,.int .i64,.int .i64,.int .i64,.int .i64]],true⟩],rs:=[⟨[.own 242 [.int .i64,.int .i64,.int .i64,.int .i64,.int .i64,.int .i64,.int .i64]],true⟩],fn:=fun ds=>(RQ (ag.ae ds 0),ag.enc (ca (ag.ae ds 0)))}
def Ly:Ctx:=[]
theorem Y3:ai Tryz.prog Ly:=aq
def Lz:List (Nat×dv):=[]
theorem Y4 (N:Nat) (t:ag):bg Tryz.prog Ly Lz N Tryz.f180 D6 (t.enc++([]))=D7 Vm.bad (fun r0=>((true,ag.enc r0):aV)) t:=by kernel_rfl
theorem Y5:Holds Tryz.prog 180 D6:=by
 refine aa (A:=Lz) Y3 Tryz.func180 rfl (by kernel_rfl) (of_decide_eq_true (by kernel_rfl)) (of_decide_eq_true (by kernel_rfl)) ?_
 intro ds hw hok
 replace hw:WtL (ag.ct++([])) ds:=hw
 obtain⟨t,ds,rfl,h_t,hw⟩:=ag.aZ (r:=_) hw
 obtain rfl:=of_wt_nil hw
 exact⟨0,((Y4 0 t).trans (Y6 Vm.bad _ t h_t hok)).trans (by kernel_rfl)⟩
def BW:Sum:= {ps:=[⟨[.str,.sl [.int .i64]],true⟩],rs:=[⟨[.imm .str,.own 3 [.int .i64]],true⟩],fn:=fun ds=>(amL (aM.ae ds 0),aM.enc (ca (aM.ae ds 0)))}
def JJ:Ctx:=[(42,lh)]
theorem V6:ai Tryz.prog JJ:=ab uj aq
def JK:List (Nat×dv):=[]
theorem V7 (N:Nat) (s:aM):bg Tryz.prog JJ JK N Tryz.f181 BW (s.enc++([]))=BX Vm.bad (fun r0=>((true,aM.enc r0):aV)) s:=by kernel_rfl
theorem V8:Holds Tryz.prog 181 BW:=by
 refine aa (A:=JK) V6 Tryz.func181 rfl (by kernel_rfl) (of_decide_eq_true (by kernel_rfl)) (of_decide_eq_true (by kernel_rfl)) ?_
 intro ds hw hok
 replace hw:WtL (aM.ct++([])) ds:=hw
 obtain⟨s,ds,rfl,h_s,hw⟩:=aM.aZ (r:=_) hw
 obtain rfl:=of_wt_nil hw
 exact⟨0,((V7 0 s).trans (V9 Vm.bad _ s h_s hok)).trans (by kernel_rfl)⟩
def H6:Sum:= {ps:=[⟨[.sl [.int .i64,.int .i64,.int .i64,.int .i64,.int .i64,.int .i64,.int .i64,.int .i64,.int .i64],.sl [.int .i64,.int .i64,.int .i64,.int .i64,.int .i64,.int .i64,.int .i64],.str,.sl [.int .i64]],true⟩],rs:=[⟨[.own 221 [.int .i64,.int .i64,.int .i64,.int .i64,.int .i64,.int .i64,.int .i64,.int .i64,.int .i64],.own 242 [.int .i64,.int .i64,.int .i64,.int .i64,.int .i64,.int .i64,.int .i64],.imm .str,.own 3 [.int .i64]],true⟩],fn:=fun ds=>(JL (al.ae ds 0),al.enc (ca (al.ae ds 0)))}
def OY:Ctx:=[(170,H4)]
theorem agp:ai Tryz.prog OY:=ab agn aq
def OZ:List (Nat×dv):=[]
theorem agq (N:Nat) (s:al):bg Tryz.prog OY OZ N Tryz.f120 H6 (s.enc++([]))=H7 Vm.bad (fun r0=>((true,al.enc r0):aV)) s:=by kernel_rfl
theorem agr:Holds Tryz.prog 120 H6:=by
 refine aa (A:=OZ) agp Tryz.func120 rfl (by kernel_rfl) (of_decide_eq_true (by kernel_rfl)) (of_decide_eq_true (by kernel_rfl)) ?_
 intro ds hw hok
 replace hw:WtL (al.ct++([])) ds:=hw
 obtain⟨s,ds,rfl,h_s,hw⟩:=al.aZ (r:=_) hw
 obtain rfl:=of_wt_nil hw
 exact⟨0,((agq 0 s).trans (ags Vm.bad _ s h_s hok)).trans (by kernel_rfl)⟩
def yP:Sum:= {ps:=[⟨[.sl [.int .i64,.int .i64,.int .i64,.int .i64,.int .i64,.int .i64,.int .i64,.int .i64,.int .i64],.sl [.int .i64,.int .i64,.int .i64,.int .i64,.int .i64,.int .i64,.int .i64],.str,.sl [.int .i64]],true⟩],rs:=[⟨[.own 221 [.int .i64,.int .i64,.int .i64,.int .i64,.int .i64,.int .i64,.int .i64,.int .i64,.int .i64],.own 242 [.int .i64,.int .i64,.int .i64,.int .i64,.int .i64,.int .i64,.int .i64],.imm .str,.own 3 [.int .i64]],true⟩],fn:=fun ds=>(JL (al.ae ds 0),al.enc (ca (al.ae ds 0)))}
def G4:Ctx:=[(180,D6),(181,BW)]
theorem Ro:ai Tryz.prog G4:=ab Y5 (ab V8 aq)
def G5:List (Nat×dv):=[]
theorem Rp (N:Nat) (s:al):bg Tryz.prog G4 G5 N Tryz.f136 yP (s.enc++([]))=yQ Vm.bad (fun r0=>((true,al.enc r0):aV)) s:=by kernel_rfl
theorem Rq:Holds Tryz.prog 136 yP:=by
 refine aa (A:=G5) Ro Tryz.func136 rfl (by kernel_rfl) (of_decide_eq_true (by kernel_rfl)) (of_decide_eq_true (by kernel_rfl)) ?_
 intro ds hw hok
 replace hw:WtL (al.ct++([])) ds:=hw
 obtain⟨s,ds,rfl,h_s,hw⟩:=al.aZ (r:=_) hw
 obtain rfl:=of_wt_nil hw
 exact⟨0,((Rp 0 s).trans (Rr Vm.bad _ s h_s hok)).trans (by kernel_rfl)⟩
def yR:Sum:= {ps:=[⟨[.sl [.int .i64,.int .i64,.int .i64,.bool]],false⟩],rs:=[⟨[.own 157 [.int .i64,.int .i64,.int .i64,.bool]],false⟩],fn:=fun ds=>(sm (rR ds 0),[.sl (ca (rR ds 0))])}
def G6:Ctx:=[]
theorem Rs:ai Tryz.prog G6:=aq
def G7:List (Nat×dv):=[]
theorem Rt (N:Nat) (af:Rows):bg Tryz.prog G6 G7 N Tryz.f132 yR (.sl af::([]))=yS Vm.bad (fun r0=>((true,[.sl r0]):aV)) af:=by kernel_rfl
theorem Ru:Holds Tryz.prog 132 yR:=by
 refine aa (A:=G7) Rs Tryz.func132 rfl (by kernel_rfl) (of_decide_eq_true (by kernel_rfl)) (of_decide_eq_true (by kernel_rfl)) ?_
 intro ds hw hok
 replace hw:WtL ((.sl [.int .i64,.int .i64,.int .i64,.bool])::([])) ds:=hw
 obtain⟨af,ds,rfl,dZ,hw⟩:=of_wt_sl hw
 obtain rfl:=of_wt_nil hw
 exact⟨0,((Rt 0 af).trans (Rv Vm.bad _ af dZ hok)).trans (by kernel_rfl)⟩
def AX:Sum:= {ps:=[⟨[.sl [.int .i64,.int .i64,.int .i64,.int .i64,.int .i64,.int .i64,.str,.bool]],false⟩],rs:=[⟨[.own 179 [.int .i64,.int .i64,.int .i64,.int .i64,.int .i64,.int .i64,.str,.bool]],false⟩],fn:=fun ds=>(sm (rR ds 0),[.sl (ca (rR ds 0))])}
def H8:Ctx:=[]
theorem TJ:ai Tryz.prog H8:=aq
def H9:List (Nat×dv):=[]
theorem TK (N:Nat) (af:Rows):bg Tryz.prog H8 H9 N Tryz.f137 AX (.sl af::([]))=AY Vm.bad (fun r0=>((true,[.sl r0]):aV)) af:=by kernel_rfl
theorem TL:Holds Tryz.prog 137 AX:=by
 refine aa (A:=H9) TJ Tryz.func137 rfl (by kernel_rfl) (of_decide_eq_true (by kernel_rfl)) (of_decide_eq_true (by kernel_rfl)) ?_
 intro ds hw hok
 replace hw:WtL ((.sl [.int .i64,.int .i64,.int .i64,.int .i64,.int .i64,.int .i64,.str,.bool])::([])) ds:=hw
 obtain⟨af,ds,rfl,dZ,hw⟩:=of_wt_sl hw
 obtain rfl:=of_wt_nil hw
 exact⟨0,((TK 0 af).trans (TM Vm.bad _ af dZ hok)).trans (by kernel_rfl)⟩
def uk:Sum:= {ps:=[⟨[.sl [.int .i64,.int .i64,.sl [.int .i64]]],false⟩],rs:=[⟨[.deep 96 [.int .i64,.int .i64,.sl [.int .i64]] [3]],false⟩],fn:=fun ds=>(BZ (rR ds 0),[.sl (ca (rR ds 0))])}
def zT:Ctx:=[(1125899906842630,afN),(1125899906842646,afN),(1125899906842647,afN),(42,lh)]
theorem acO:ai Tryz.prog zT:=ab RN (ab RN (ab RN (ab uj aq)))
def zU:List (Nat×dv):=[(3, {bJ:=[(3,.aU),(7,.aU),(8,.aU),(9,.aU)],boxes:=[]})]
def lj:Rows→aV:=(fun r0=>((true,[.sl r0]):aV))
def mv (af:Rows) (bl:Int) (bz:Int) (az:Rows):St:= {n:=26,sl:=[(3,.own 640192),(7,.sl [.int .i64,.int .i64,.sl [.int .i64]] af),(8,.int .i64 bl),(9,.int .i64 bz)],hp:=[(640192,.deep 96 [.int .i64,.int .i64,.sl [.int .i64]] [3] az none)],ok:=true,ls:=[],lm:=[]}
noncomputable def mw (N:Nat):(St→aV)→St→aV:=dw Tryz.prog zT zU N Tryz.f179 uk [true,true,false,true,false] []
theorem Y7 (N:Nat) (af:Rows) (bl:Int) (ih:St→aV) (bz:Int) (az:Rows):mw N ih (mv af bl bz az)=rX Vm.bad lj af bl (fun bz az=>ih (mv af bl bz az)) bz az:=by kernel_rfl
theorem Y8 (N:Nat) (af:Rows) (bl:Int) (m_:Nat):(fun bz az=>aw (mw N) m_ (mv af bl bz az))=gn Vm.bad lj N af bl m_:=by
 induction m_ with
 | zero=>rfl
 | succ m_ ih=>
  funext bz az
  show mw N (aw (mw N) m_) (mv af bl bz az)=_
  rw[Y7 N af bl]
  rw[ih]
  rfl
theorem acP (N:Nat) (af:Rows):bg Tryz.prog zT zU N Tryz.f179 uk (.sl af::([]))=zV Vm.bad lj N af:=by
 have cm:bg Tryz.prog zT zU N Tryz.f179 uk (.sl af::([]))=zW Vm.bad lj (fun bl bz az=>aw (mw N) N (mv af bl bz az)) af:=by kernel_rfl
 refine cm.trans ?_
 unfold zV
 have e0:(fun bl bz az=>aw (mw N) N (mv af bl bz az))=(fun bl=>gn Vm.bad lj N af bl N):=by
  funext bl
  exact Y8 N af bl N
 exact congrArg (fun l_=>zW Vm.bad lj l_ af) e0
theorem acQ:Holds Tryz.prog 179 uk:=by
 refine aa (A:=zU) acO Tryz.func179 rfl (by kernel_rfl) (of_decide_eq_true (by kernel_rfl)) (of_decide_eq_true (by kernel_rfl)) ?_
 intro ds hw hok
 replace hw:WtL ((.sl [.int .i64,.int .i64,.sl [.int .i64]])::([])) ds:=hw
 obtain⟨af,ds,rfl,dZ,hw⟩:=of_wt_sl hw
 obtain rfl:=of_wt_nil hw
 obtain⟨N,hN⟩:=acR Vm.bad lj af dZ hok
 exact⟨N,((acP N af).trans hN).trans (by kernel_rfl)⟩
def we:Sum:= {ps:=[⟨[.int .i64,.int .i64,.int .i64,.int .i64,.int .i64,.int .i64,.int .i64,.sl [.int .i64],.sl [.int .i64,.int .i64,.sl [.int .i64]],.int .i64],true⟩],rs:=[⟨[.imm (.int .i64),.imm (.int .i64),.imm (.int .i64),.imm (.int .i64),.imm (.int .i64),.imm (.int .i64),.imm (.int .i64),.own 3 [.int .i64],.own 96 [.int .i64,.int .i64,.sl [.int .i64]],.imm (.int .i64)],true⟩],fn:=fun ds=>(acS (au.ae ds 0),au.enc (ca (au.ae ds 0)))}
def B0:Ctx:=[(118,wg)]
theorem agt:ai Tryz.prog B0:=ab H_ aq
def B1:List (Nat×dv):=[(3, {bJ:=[(1,.aU),(2,.aU),(3,.aU),(4,.aU)],boxes:=[(64,[]),(128,[]),(192,[(8,.own 96)])]})]
def nD:au→aV:=(fun r0=>((true,au.enc r0):aV))
def oM (k:Int) (q_1:Int) (Ia:Int) (q_3:Int) (q_4:Int) (yG:Int) (yH:Int) (yI:Int) (yJ:Rows) (sT:Rows) (FE:Int) (b2:Int) (p8:Int) (p9:Int) (p_:Int) (qb:Int) (qc:Int) (qd:Int) (qe:Int) (az:Int) (bm:Int) (bn:Int) (bo:Int) (bp:Int) (bq:Int) (br:Int) (bs:Int) (eP:Rows) (cQ:Rows):St:= {n:=41,sl:=[(1,.ptr 64 0),(2,.ptr 128 0),(3,.ptr 192 0),(4,.int .i64 k)],hp:=[(64,.box 61 [.int .i64 q_1,.int .i64 Ia,.int .i64 q_3,.int .i64 q_4,.int .i64 yG,.int .i64 yH,.int .i64 yI,.sl [.int .i64] yJ,.sl [.int .i64,.int .i64,.sl [.int .i64]] sT,.int .i64 FE]),(128,.box 61 [.int .i64 b2,.int .i64 p8,.int .i64 p9,.int .i64 p_,.int .i64 qb,.int .i64 qc,.int .i64 qd,.nil,.nil,.int .i64 qe]),(192,.box 61 [.int .i64 az,.int .i64 bm,.int .i64 bn,.int .i64 bo,.int .i64 bp,.int .i64 bq,.int .i64 br,.own 1329159,.own 1329160,.int .i64 bs]),(1329159,.row 3 [.int .i64] eP false true),(1329160,.row 96 [.int .i64,.int .i64,.sl [.int .i64]] cQ false true)],ok:=true,ls:=[],lm:=[]}
noncomputable def oN (N:Nat):(St→aV)→St→aV:=dw Tryz.prog B0 B1 N Tryz.f117 we [true,true,false,true,false] []
theorem acT (N:Nat) (q_1:Int) (Ia:Int) (q_3:Int) (q_4:Int) (yG:Int) (yH:Int) (yI:Int) (yJ:Rows) (sT:Rows) (FE:Int) (b2:Int) (p8:Int) (p9:Int) (p_:Int) (qb:Int) (qc:Int) (qd:Int) (qe:Int) (az:Int) (bm:Int) (bn:Int) (bo:Int) (bp:Int) (bq:Int) (br:Int) (bs:Int) (eP:Rows) (ih:St→aV) (k:Int) (cQ:Rows):oN N ih (oM k q_1 Ia q_3 q_4 yG yH yI yJ sT FE b2 p8 p9 p_ qb qc qd qe az bm bn bo bp bq br bs eP cQ)=um Vm.bad nD sT az bm bn bo bp bq br bs eP (fun k cQ=>ih (oM k q_1 Ia q_3 q_4 yG yH yI yJ sT FE b2 p8 p9 p_ qb qc qd qe az bm bn bo bp bq br bs eP cQ)) k cQ:=by kernel_rfl
theorem acU (N:Nat) (q_1:Int) (Ia:Int) (q_3:Int) (q_4:Int) (yG:Int) (yH:Int) (yI:Int) (yJ:Rows) (sT:Rows) (FE:Int) (b2:Int) (p8:Int) (p9:Int) (p_:Int) (qb:Int) (qc:Int) (qd:Int) (qe:Int) (az:Int) (bm:Int) (bn:Int) (bo:Int) (bp:Int) (bq:Int) (br:Int) (bs:Int) (eP:Rows) (m_:Nat):(fun k cQ=>aw (oN N) m_ (oM k q_1 Ia q_3 q_4 yG yH yI yJ sT FE b2 p8 p9 p_ qb qc qd qe az bm bn bo bp bq br bs eP cQ))=fJ Vm.bad nD N sT az bm bn bo bp bq br bs eP m_:=by
 induction m_ with
 | zero=>rfl
 | succ m_ ih=>
  funext k cQ
  show oN N (aw (oN N) m_) (oM k q_1 Ia q_3 q_4 yG yH yI yJ sT FE b2 p8 p9 p_ qb qc qd qe az bm bn bo bp bq br bs eP cQ)=_
  rw[acT N q_1 Ia q_3 q_4 yG yH yI yJ sT FE b2 p8 p9 p_ qb qc qd qe az bm bn bo bp bq br bs eP]
  rw[ih]
  rfl
theorem agu (N:Nat) (q:au):bg Tryz.prog B0 B1 N Tryz.f117 we (q.enc++([]))=B2 Vm.bad nD N q:=by
 have cm:bg Tryz.prog B0 B1 N Tryz.f117 we (q.enc++([]))=B3 Vm.bad nD (fun sT az bm bn bo bp bq br bs eP k cQ=>aw (oN N) N (oM k q.Ring.cP q.Ring.bB q.Ring.Head q.Ring.fk q.a_.cP q.a_.bB q.a_.Count q.a_.dn sT q.Next 0 0 0 0 0 0 0 0 az bm bn bo bp bq br bs eP cQ)) q:=by kernel_rfl
 refine cm.trans ?_
 unfold B2
 have e0:(fun sT az bm bn bo bp bq br bs eP k cQ=>aw (oN N) N (oM k q.Ring.cP q.Ring.bB q.Ring.Head q.Ring.fk q.a_.cP q.a_.bB q.a_.Count q.a_.dn sT q.Next 0 0 0 0 0 0 0 0 az bm bn bo bp bq br bs eP cQ))=(fun sT az bm bn bo bp bq br bs eP=>fJ Vm.bad nD N sT az bm bn bo bp bq br bs eP N):=by
  funext sT az bm bn bo bp bq br bs eP
  exact acU N q.Ring.cP q.Ring.bB q.Ring.Head q.Ring.fk q.a_.cP q.a_.bB q.a_.Count q.a_.dn sT q.Next 0 0 0 0 0 0 0 0 az bm bn bo bp bq br bs eP N
 exact congrArg (fun l_=>B3 Vm.bad nD l_ q) e0
theorem agv:Holds Tryz.prog 117 we:=by
 refine aa (A:=B1) agt Tryz.func117 rfl (by kernel_rfl) (of_decide_eq_true (by kernel_rfl)) (of_decide_eq_true (by kernel_rfl)) ?_
 intro ds hw hok
 replace hw:WtL (au.ct++([])) ds:=hw
 obtain⟨q,ds,rfl,h_q,hw⟩:=au.aZ (r:=_) hw
 obtain rfl:=of_wt_nil hw
 obtain⟨N,hN⟩:=agw Vm.bad nD q h_q hok
 exact⟨N,((agu N q).trans hN).trans (by kernel_rfl)⟩
def KL:Sum:= {ps:=[⟨[.int .i64,.int .i64,.int .i64,.int .i64,.int .i64,.int .i64,.int .i64,.sl [.int .i64],.sl [.int .i64,.int .i64,.sl [.int .i64]],.int .i64],true⟩],rs:=[⟨[.imm (.int .i64),.imm (.int .i64),.imm (.int .i64),.imm (.int .i64),.imm (.int .i64),.imm (.int .i64),.imm (.int .i64),.own 3 [.int .i64],.deep 96 [.int .i64,.int .i64,.sl [.int .i64]] [3],.imm (.int .i64)],true⟩],fn:=fun ds=>(acS (au.ae ds 0),au.enc (ca (au.ae ds 0)))}
def RR:Ctx:=[(134,uo),(179,uk)]
theorem ajE:ai Tryz.prog RR:=ab Ge (ab acQ aq)
def RS:List (Nat×dv):=[]
theorem ajF (N:Nat) (q:au):bg Tryz.prog RR RS N Tryz.f133 KL (q.enc++([]))=KM Vm.bad (fun r0=>((true,au.enc r0):aV)) q:=by kernel_rfl
theorem ajG:Holds Tryz.prog 133 KL:=by
 refine aa (A:=RS) ajE Tryz.func133 rfl (by kernel_rfl) (of_decide_eq_true (by kernel_rfl)) (of_decide_eq_true (by kernel_rfl)) ?_
 intro ds hw hok
 replace hw:WtL (au.ct++([])) ds:=hw
 obtain⟨q,ds,rfl,h_q,hw⟩:=au.aZ (r:=_) hw
 obtain rfl:=of_wt_nil hw
 exact⟨0,((ajF 0 q).trans (ajH Vm.bad _ q h_q hok)).trans (by kernel_rfl)⟩
def uq:Sum:= {ps:=[⟨[.sl [.str],.sl [.int .i64,.int .i64,.int .i64,.bool],.int .i64,.int .i64,.int .i64,.int .i64,.int .i64,.int .i64,.int .i64,.sl [.int .i64],.sl [.int .i64,.int .i64,.sl [.int .i64]],.int .i64,.sl [.int .i64,.int .i64,.int .i64,.int .i64,.int .i64,.int .i64,.int .i64,.int .i64,.int .i64,.int .i64,.int .i64,.int .i64,.int .i64,.int .i64,.int .i64,.int .i64,.int .i64,.int .i64,.int .i64,.int .i64,.int .i64,.int .i64,.int .i64,.int .i64,.int .i64,.str,.int .i64,.int .i64,.bool,.int .i64],.sl [.int .i64,.int .i64,.int .i64,.sl [.int .i64]],.sl [.int .i64,.int .i64,.int .i64,.int .i64,.bool,.bool],.sl [.bool],.int .i64,.bool,.sl [.int .i64],.sl [.int .i64,.int .i64,.int .i64,.int .i64,.int .i64,.int .i64,.int .i64,.int .i64,.int .i64],.sl [.int .i64,.int .i64,.int .i64,.int .i64,.int .i64,.int .i64,.int .i64],.str,.sl [.int .i64],.sl [.int .i64,.int .i64,.int .i64,.int .i64,.int .i64,.int .i64,.str,.bool],.bool,.sl [.str],.sl [.int .i64],.sl [.int .i64],.int .i64,.int .i64,.int .i64,.int .i64,.int .i64],true⟩],rs:=[⟨[.own 9 [.str],.own 157 [.int .i64,.int .i64,.int .i64,.bool],.imm (.int .i64),.imm (.int .i64),.imm (.int .i64),.imm (.int .i64),.imm (.int .i64),.imm (.int .i64),.imm (.int .i64),.own 3 [.int .i64],.deep 96 [.int .i64,.int .i64,.sl [.int .i64]] [3],.imm (.int .i64),.own 170 [.int .i64,.int .i64,.int .i64,.int .i64,.int .i64,.int .i64,.int .i64,.int .i64,.int .i64,.int .i64,.int .i64,.int .i64,.int .i64,.int .i64,.int .i64,.int .i64,.int .i64,.int .i64,.int .i64,.int .i64,.int .i64,.int .i64,.int .i64,.int .i64,.int .i64,.str,.int .i64,.int .i64,.bool,.int .i64],.deep 58 [.int .i64,.int .i64,.int .i64,.sl [.int .i64]] [3],.own 133 [.int .i64,.int .i64,.int .i64,.int .i64,.bool,.bool],.own 4 [.bool],.imm (.int .i64),.imm .bool,.own 3 [.int .i64],.own 221 [.int .i64,.int .i64,.int .i64,.int .i64,.int .i64,.int .i64,.int .i64,.int .i64,.int .i64],.own 242 [.int .i64,.int .i64,.int .i64,.int .i64,.int .i64,.int .i64,.int .i64],.imm .str,.own 3 [.int .i64],.own 179 [.int .i64,.int .i64,.int .i64,.int .i64,.int .i64,.int .i64,.str,.bool],.imm .bool,.own 9 [.str],.own 3 [.int .i64],.own 3 [.int .i64],.imm (.int .i64),.imm (.int .i64),.imm (.int .i64),.imm (.int .i64),.imm (.int .i64)],true⟩],fn:=fun ds=>(tx (aB.ae ds 0),aB.enc (ca (aB.ae ds 0)))}
def zX:Ctx:=[(1125899906842648,afN),(1125899906842661,afN),(1125899906842662,afN),(42,lh),(131,B4),(132,yR),(133,KL),(134,uo),(135,BU),(136,yP),(137,AX),(138,tz)]
theorem acV:ai Tryz.prog zX:=ab RN (ab RN (ab RN (ab uj (ab V_ (ab Ru (ab ajG (ab Ge (ab V4 (ab Rq (ab TL (ab Ib aq)))))))))))
def zY:List (Nat×dv):=[(8, {bJ:=[(1,.aU),(2,.aU),(3,.aU),(27,.aU),(28,.aU),(29,.aU)],boxes:=[(64,[]),(128,[]),(192,[])]})]
def lk:aB→aV:=(fun r0=>((true,aB.enc r0):aV))
def my (x:Rows) (bl:Int) (bz:Int) (nr:Rows) (h_2:Rows) (nt:Int) (nv:Int) (nw:Int) (nx:Int) (ny:Int) (nz:Int) (nA:Int) (dM:Rows) (dN:Rows) (dO:Int) (cX:Rows) (cn:Rows) (bI:Rows) (cr:Rows) (cA:Int) (cB:Bool) (cu:Rows) (bQ:Rows) (bR:Rows) (bU:Bytes) (bS:Rows) (cv:Rows) (dP:Bool) (cx:Rows) (cy:Rows) (cz:Rows) (c_:Int) (da:Int) (db:Int) (dc:Int) (dd:Int) (b2:Int) (p8:Int) (p9:Int) (p_:Int) (qb:Int) (qc:Int) (qd:Int) (qe:Int) (wh:Int) (wi:Bool) (jw:Bytes) (jx:Bool) (jy:Int) (jz:Int) (jA:Int) (jB:Int) (jC:Int) (az:Int) (bm:Int) (bn:Int) (bo:Int) (bp:Int) (bq:Int) (br:Int) (bs:Int) (cQ:Rows) (dy:Rows) (cD:Int) (cE:Bool) (cF:Rows) (cG:Rows) (cH:Rows) (cI:Bytes) (cJ:Rows) (wj:Rows) (ba:Bool) (cK:Rows) (cL:Rows) (wk:Rows) (bb:Int) (bc:Int) (cM:Int) (bd:Int) (bf:Int) (bL:Rows) (aO:Rows) (aP:Rows) (aE:Rows) (aF:Rows) (aT:Rows):St:= {n:=76,sl:=[(1,.ptr 64 0),(2,.ptr 128 0),(3,.ptr 192 0),(27,.sl [.int .i64,.int .i64,.int .i64,.sl [.int .i64]] x),(28,.int .i64 bl),(29,.int .i64 bz)],hp:=[(64,.box 76 [.sl [.str] nr,.sl [.int .i64,.int .i64,.int .i64,.bool] h_2,.int .i64 nt,.int .i64 nv,.int .i64 nw,.int .i64 nx,.int .i64 ny,.int .i64 nz,.int .i64 nA,.sl [.int .i64] dM,.sl [.int .i64,.int .i64,.sl [.int .i64]] dN,.int .i64 dO,.sl [.int .i64,.int .i64,.int .i64,.int .i64,.int .i64,.int .i64,.int .i64,.int .i64,.int .i64,.int .i64,.int .i64,.int .i64,.int .i64,.int .i64,.int .i64,.int .i64,.int .i64,.int .i64,.int .i64,.int .i64,.int .i64,.int .i64,.int .i64,.int .i64,.int .i64,.str,.int .i64,.int .i64,.bool,.int .i64] cX,.sl [.int .i64,.int .i64,.int .i64,.sl [.int .i64]] cn,.sl [.int .i64,.int .i64,.int .i64,.int .i64,.bool,.bool] bI,.sl [.bool] cr,.int .i64 cA,.bool cB,.sl [.int .i64] cu,.sl [.int .i64,.int .i64,.int .i64,.int .i64,.int .i64,.int .i64,.int .i64,.int .i64,.int .i64] bQ,.sl [.int .i64,.int .i64,.int .i64,.int .i64,.int .i64,.int .i64,.int .i64] bR,.str bU,.sl [.int .i64] bS,.sl [.int .i64,.int .i64,.int .i64,.int .i64,.int .i64,.int .i64,.str,.bool] cv,.bool dP,.sl [.str] cx,.sl [.int .i64] cy,.sl [.int .i64] cz,.int .i64 c_,.int .i64 da,.int .i64 db,.int .i64 dc,.int .i64 dd]),(128,.box 76 [.nil,.nil,.int .i64 b2,.int .i64 p8,.int .i64 p9,.int .i64 p_,.int .i64 qb,.int .i64 qc,.int .i64 qd,.nil,.nil,.int .i64 qe,.nil,.nil,.nil,.nil,.int .i64 wh,.bool wi,.nil,.nil,.nil,.str jw,.nil,.nil,.bool jx,.nil,.nil,.nil,.int .i64 jy,.int .i64 jz,.int .i64 jA,.int .i64 jB,.int .i64 jC]),(192,.box 76 [.own 1329152,.own 1329153,.int .i64 az,.int .i64 bm,.int .i64 bn,.int .i64 bo,.int .i64 bp,.int .i64 bq,.int .i64 br,.own 1329161,.own 1329162,.int .i64 bs,.own 1329164,.own 1329165,.sl [.int .i64,.int .i64,.int .i64,.int .i64,.bool,.bool] cQ,.sl [.bool] dy,.int .i64 cD,.bool cE,.sl [.int .i64] cF,.sl [.int .i64,.int .i64,.int .i64,.int .i64,.int .i64,.int .i64,.int .i64,.int .i64,.int .i64] cG,.sl [.int .i64,.int .i64,.int .i64,.int .i64,.int .i64,.int .i64,.int .i64] cH,.str cI,.sl [.int .i64] cJ,.sl [.int .i64,.int .i64,.int .i64,.int .i64,.int .i64,.int .i64,.str,.bool] wj,.bool ba,.sl [.str] cK,.sl [.int .i64] cL,.sl [.int .i64] wk,.int .i64 bb,.int .i64 bc,.int .i64 cM,.int .i64 bd,.int .i64 bf]),(1329152,.row 9 [.str] bL false true),(1329153,.row 157 [.int .i64,.int .i64,.int .i64,.bool] aO false true),(1329161,.row 3 [.int .i64] aP false true),(1329162,.deep 96 [.int .i64,.int .i64,.sl [.int .i64]] [3] aE none),(1329164,.row 170 [.int .i64,.int .i64,.int .i64,.int .i64,.int .i64,.int .i64,.int .i64,.int .i64,.int .i64,.int .i64,.int .i64,.int .i64,.int .i64,.int .i64,.int .i64,.int .i64,.int .i64,.int .i64,.int .i64,.int .i64,.int .i64,.int .i64,.int .i64,.int .i64,.int .i64,.str,.int .i64,.int .i64,.bool,.int .i64] aF false true),(1329165,.deep 58 [.int .i64,.int .i64,.int .i64,.sl [.int .i64]] [3] aT none)],ok:=true,ls:=[],lm:=[]}
noncomputable def mz (N:Nat):(St→aV)→St→aV:=dw Tryz.prog zX zY N Tryz.f69 uq [true,true,true,true,true,true,true,false,true,false] []
theorem Y9 (N:Nat) (x:Rows) (bl:Int) (nr:Rows) (h_2:Rows) (nt:Int) (nv:Int) (nw:Int) (nx:Int) (ny:Int) (nz:Int) (nA:Int) (dM:Rows) (dN:Rows) (dO:Int) (cX:Rows) (cn:Rows) (bI:Rows) (cr:Rows) (cA:Int) (cB:Bool) (cu:Rows) (bQ:Rows) (bR:Rows) (bU:Bytes) (bS:Rows) (cv:Rows) (dP:Bool) (cx:Rows) (cy:Rows) (cz:Rows) (c_:Int) (da:Int) (db:Int) (dc:Int) (dd:Int) (b2:Int) (p8:Int) (p9:Int) (p_:Int) (qb:Int) (qc:Int) (qd:Int) (qe:Int) (wh:Int) (wi:Bool) (jw:Bytes) (jx:Bool) (jy:Int) (jz:Int) (jA:Int) (jB:Int) (jC:Int) (az:Int) (bm:Int) (bn:Int) (bo:Int) (bp:Int) (bq:Int) (br:Int) (bs:Int) (cQ:Rows) (dy:Rows) (cD:Int) (cE:Bool) (cF:Rows) (cG:Rows) (cH:Rows) (cI:Bytes) (cJ:Rows) (wj:Rows) (ba:Bool) (cK:Rows) (cL:Rows) (wk:Rows) (bb:Int) (bc:Int) (cM:Int) (bd:Int) (bf:Int) (bL:Rows) (aO:Rows) (aP:Rows) (aE:Rows) (aF:Rows) (ih:St→aV) (bz:Int) (aT:Rows):mz N ih (my x bl bz nr h_2 nt nv nw nx ny nz nA dM dN dO cX cn bI cr cA cB cu bQ bR bU bS cv dP cx cy cz c_ da db dc dd b2 p8 p9 p_ qb qc qd qe wh wi jw jx jy jz jA jB jC az bm bn bo bp bq br bs cQ dy cD cE cF cG cH cI cJ wj ba cK cL wk bb bc cM bd bf bL aO aP aE aF aT)=rY Vm.bad lk x bl bI cr cA cB cu bQ bR bU bS cv cx cy cz az bm bn bo bp bq br bs ba bb bc cM bd bf bL aO aP aE aF (fun bz aT=>ih (my x bl bz nr h_2 nt nv nw nx ny nz nA dM dN dO cX cn bI cr cA cB cu bQ bR bU bS cv dP cx cy cz c_ da db dc dd b2 p8 p9 p_ qb qc qd qe wh wi jw jx jy jz jA jB jC az bm bn bo bp bq br bs cQ dy cD cE cF cG cH cI cJ wj ba cK cL wk bb bc cM bd bf bL aO aP aE aF aT)) bz aT:=by kernel_rfl
theorem Y_ (N:Nat) (x:Rows) (bl:Int) (nr:Rows) (h_2:Rows) (nt:Int) (nv:Int) (nw:Int) (nx:Int) (ny:Int) (nz:Int) (nA:Int) (dM:Rows) (dN:Rows) (dO:Int) (cX:Rows) (cn:Rows) (bI:Rows) (cr:Rows) (cA:Int) (cB:Bool) (cu:Rows) (bQ:Rows) (bR:Rows) (bU:Bytes) (bS:Rows) (cv:Rows) (dP:Bool) (cx:Rows) (cy:Rows) (cz:Rows) (c_:Int) (da:Int) (db:Int) (dc:Int) (dd:Int) (b2:Int) (p8:Int) (p9:Int) (p_:Int) (qb:Int) (qc:Int) (qd:Int) (qe:Int) (wh:Int) (wi:Bool) (jw:Bytes) (jx:Bool) (jy:Int) (jz:Int) (jA:Int) (jB:Int) (jC:Int) (az:Int) (bm:Int) (bn:Int) (bo:Int) (bp:Int) (bq:Int) (br:Int) (bs:Int) (cQ:Rows) (dy:Rows) (cD:Int) (cE:Bool) (cF:Rows) (cG:Rows) (cH:Rows) (cI:Bytes) (cJ:Rows) (wj:Rows) (ba:Bool) (cK:Rows) (cL:Rows) (wk:Rows) (bb:Int) (bc:Int) (cM:Int) (bd:Int) (bf:Int) (bL:Rows) (aO:Rows) (aP:Rows) (aE:Rows) (aF:Rows) (m_:Nat):(fun bz aT=>aw (mz N) m_ (my x bl bz nr h_2 nt nv nw nx ny nz nA dM dN dO cX cn bI cr cA cB cu bQ bR bU bS cv dP cx cy cz c_ da db dc dd b2 p8 p9 p_ qb qc qd qe wh wi jw jx jy jz jA jB jC az bm bn bo bp bq br bs cQ dy cD cE cF cG cH cI cJ wj ba cK cL wk bb bc cM bd bf bL aO aP aE aF aT))=fg Vm.bad lk N x bl bI cr cA cB cu bQ bR bU bS cv cx cy cz az bm bn bo bp bq br bs ba bb bc cM bd bf bL aO aP aE aF m_:=by
 induction m_ with
 | zero=>rfl
 | succ m_ ih=>
  funext bz aT
  show mz N (aw (mz N) m_) (my x bl bz nr h_2 nt nv nw nx ny nz nA dM dN dO cX cn bI cr cA cB cu bQ bR bU bS cv dP cx cy cz c_ da db dc dd b2 p8 p9 p_ qb qc qd qe wh wi jw jx jy jz jA jB jC az bm bn bo bp bq br bs cQ dy cD cE cF cG cH cI cJ wj ba cK cL wk bb bc cM bd bf bL aO aP aE aF aT)=_
  rw[Y9 N x bl nr h_2 nt nv nw nx ny nz nA dM dN dO cX cn bI cr cA cB cu bQ bR bU bS cv dP cx cy cz c_ da db dc dd b2 p8 p9 p_ qb qc qd qe wh wi jw jx jy jz jA jB jC az bm bn bo bp bq br bs cQ dy cD cE cF cG cH cI cJ wj ba cK cL wk bb bc cM bd bf bL aO aP aE aF]
  rw[ih]
  rfl
theorem acW (N:Nat) (h:aB):bg Tryz.prog zX zY N Tryz.f69 uq (h.enc++([]))=zZ Vm.bad lk N h:=by
 have cm:bg Tryz.prog zX zY N Tryz.f69 uq (h.enc++([]))=z_ Vm.bad lk (fun x bl bI cr cA cB cu bQ bR bU bS cv cx cy cz az bm bn bo bp bq br bs ba bb bc cM bd bf bL aO aP aE aF bz aT=>aw (mz N) N (my x bl bz h.bV.dm h.Maps h.Tx.Ring.cP h.Tx.Ring.bB h.Tx.Ring.Head h.Tx.Ring.fk h.Tx.a_.cP h.Tx.a_.bB h.Tx.a_.Count h.Tx.a_.dn h.Tx.aG h.Tx.Next h.Rx h.bN bI cr cA cB cu bQ bR bU bS cv h.dp cx cy cz h.Counters.Frames h.Counters.KN h.Counters.di h.Counters.dE h.Counters.fC 0 0 0 0 0 0 0 0 0 false [] false 0 0 0 0 0 az bm bn bo bp bq br bs h.aY h.cj h.Filter.G3 h.Filter.bA h.Filter.cW h.aj.bW h.aj.Table.aL h.aj.bj.Key h.aj.bj.Table h.cO ba h.ic h.bK h.b_ bb bc cM bd bf bL aO aP aE aF aT)) h:=by kernel_rfl
 refine cm.trans ?_
 unfold zZ
 have e0:(fun x bl bI cr cA cB cu bQ bR bU bS cv cx cy cz az bm bn bo bp bq br bs ba bb bc cM bd bf bL aO aP aE aF bz aT=>aw (mz N) N (my x bl bz h.bV.dm h.Maps h.Tx.Ring.cP h.Tx.Ring.bB h.Tx.Ring.Head h.Tx.Ring.fk h.Tx.a_.cP h.Tx.a_.bB h.Tx.a_.Count h.Tx.a_.dn h.Tx.aG h.Tx.Next h.Rx h.bN bI cr cA cB cu bQ bR bU bS cv h.dp cx cy cz h.Counters.Frames h.Counters.KN h.Counters.di h.Counters.dE h.Counters.fC 0 0 0 0 0 0 0 0 0 false [] false 0 0 0 0 0 az bm bn bo bp bq br bs h.aY h.cj h.Filter.G3 h.Filter.bA h.Filter.cW h.aj.bW h.aj.Table.aL h.aj.bj.Key h.aj.bj.Table h.cO ba h.ic h.bK h.b_ bb bc cM bd bf bL aO aP aE aF aT))=(fun x bl bI cr cA cB cu bQ bR bU bS cv cx cy cz az bm bn bo bp bq br bs ba bb bc cM bd bf bL aO aP aE aF=>fg Vm.bad lk N x bl bI cr cA cB cu bQ bR bU bS cv cx cy cz az bm bn bo bp bq br bs ba bb bc cM bd bf bL aO aP aE aF N):=by
  funext x bl bI cr cA cB cu bQ bR bU bS cv cx cy cz az bm bn bo bp bq br bs ba bb bc cM bd bf bL aO aP aE aF
  exact Y_ N x bl h.bV.dm h.Maps h.Tx.Ring.cP h.Tx.Ring.bB h.Tx.Ring.Head h.Tx.Ring.fk h.Tx.a_.cP h.Tx.a_.bB h.Tx.a_.Count h.Tx.a_.dn h.Tx.aG h.Tx.Next h.Rx h.bN bI cr cA cB cu bQ bR bU bS cv h.dp cx cy cz h.Counters.Frames h.Counters.KN h.Counters.di h.Counters.dE h.Counters.fC 0 0 0 0 0 0 0 0 0 false [] false 0 0 0 0 0 az bm bn bo bp bq br bs h.aY h.cj h.Filter.G3 h.Filter.bA h.Filter.cW h.aj.bW h.aj.Table.aL h.aj.bj.Key h.aj.bj.Table h.cO ba h.ic h.bK h.b_ bb bc cM bd bf bL aO aP aE aF N
 exact congrArg (fun l_=>z_ Vm.bad lk l_ h) e0
theorem acX:Holds Tryz.prog 69 uq:=by
 refine aa (A:=zY) acV Tryz.func69 rfl (by kernel_rfl) (of_decide_eq_true (by kernel_rfl)) (of_decide_eq_true (by kernel_rfl)) ?_
 intro ds hw hok
 replace hw:WtL (aB.ct++([])) ds:=hw
 obtain⟨h,ds,rfl,h_h,hw⟩:=aB.aZ (r:=_) hw
 obtain rfl:=of_wt_nil hw
 obtain⟨N,hN⟩:=acY Vm.bad lk h h_h hok
 exact⟨N,((acW N h).trans hN).trans (by kernel_rfl)⟩
def wm:Sum:= {ps:=[⟨[.sl [.str],.sl [.int .i64,.int .i64,.int .i64,.bool],.int .i64,.int .i64,.int .i64,.int .i64,.int .i64,.int .i64,.int .i64,.sl [.int .i64],.sl [.int .i64,.int .i64,.sl [.int .i64]],.int .i64,.sl [.int .i64,.int .i64,.int .i64,.int .i64,.int .i64,.int .i64,.int .i64,.int .i64,.int .i64,.int .i64,.int .i64,.int .i64,.int .i64,.int .i64,.int .i64,.int .i64,.int .i64,.int .i64,.int .i64,.int .i64,.int .i64,.int .i64,.int .i64,.int .i64,.int .i64,.str,.int .i64,.int .i64,.bool,.int .i64],.sl [.int .i64,.int .i64,.int .i64,.sl [.int .i64]],.sl [.int .i64,.int .i64,.int .i64,.int .i64,.bool,.bool],.sl [.bool],.int .i64,.bool,.sl [.int .i64],.sl [.int .i64,.int .i64,.int .i64,.int .i64,.int .i64,.int .i64,.int .i64,.int .i64,.int .i64],.sl [.int .i64,.int .i64,.int .i64,.int .i64,.int .i64,.int .i64,.int .i64],.str,.sl [.int .i64],.sl [.int .i64,.int .i64,.int .i64,.int .i64,.int .i64,.int .i64,.str,.bool],.bool,.sl [.str],.sl [.int .i64],.sl [.int .i64],.int .i64,.int .i64,.int .i64,.int .i64,.int .i64],true⟩],rs:=[⟨[.own 9 [.str],.own 157 [.int .i64,.int .i64,.int .i64,.bool],.imm (.int .i64),.imm (.int .i64),.imm (.int .i64),.imm (.int .i64),.imm (.int .i64),.imm (.int .i64),.imm (.int .i64),.own 3 [.int .i64],.own 96 [.int .i64,.int .i64,.sl [.int .i64]],.imm (.int .i64),.own 170 [.int .i64,.int .i64,.int .i64,.int .i64,.int .i64,.int .i64,.int .i64,.int .i64,.int .i64,.int .i64,.int .i64,.int .i64,.int .i64,.int .i64,.int .i64,.int .i64,.int .i64,.int .i64,.int .i64,.int .i64,.int .i64,.int .i64,.int .i64,.int .i64,.int .i64,.str,.int .i64,.int .i64,.bool,.int .i64],.own 58 [.int .i64,.int .i64,.int .i64,.sl [.int .i64]],.own 133 [.int .i64,.int .i64,.int .i64,.int .i64,.bool,.bool],.own 4 [.bool],.imm (.int .i64),.imm .bool,.own 3 [.int .i64],.own 221 [.int .i64,.int .i64,.int .i64,.int .i64,.int .i64,.int .i64,.int .i64,.int .i64,.int .i64],.own 242 [.int .i64,.int .i64,.int .i64,.int .i64,.int .i64,.int .i64,.int .i64],.imm .str,.own 3 [.int .i64],.own 179 [.int .i64,.int .i64,.int .i64,.int .i64,.int .i64,.int .i64,.str,.bool],.imm .bool,.own 9 [.str],.own 3 [.int .i64],.own 3 [.int .i64],.imm (.int .i64),.imm (.int .i64),.imm (.int .i64),.imm (.int .i64),.imm (.int .i64)],true⟩],fn:=fun ds=>(tx (aB.ae ds 0),aB.enc (ca (aB.ae ds 0)))}
def B5:Ctx:=[(116,HZ),(117,we),(118,wg),(119,H2),(120,H6)]
theorem agx:ai Tryz.prog B5:=ab age (ab agv (ab H_ (ab agj (ab agr aq))))
def B6:List (Nat×dv):=[(8, {bJ:=[(1,.aU),(2,.aU),(3,.aU),(4,.aU)],boxes:=[(64,[]),(128,[]),(192,[])]})]
def nE:aB→aV:=(fun r0=>((true,aB.enc r0):aV))
def oO (k:Int) (nr:Rows) (h_2:Rows) (nt:Int) (nv:Int) (nw:Int) (nx:Int) (ny:Int) (nz:Int) (nA:Int) (dM:Rows) (dN:Rows) (dO:Int) (cX:Rows) (cn:Rows) (bI:Rows) (cr:Rows) (cA:Int) (cB:Bool) (cu:Rows) (bQ:Rows) (bR:Rows) (bU:Bytes) (bS:Rows) (cv:Rows) (dP:Bool) (cx:Rows) (cy:Rows) (cz:Rows) (c_:Int) (da:Int) (db:Int) (dc:Int) (dd:Int) (b2:Int) (p8:Int) (p9:Int) (p_:Int) (qb:Int) (qc:Int) (qd:Int) (qe:Int) (wh:Int) (wi:Bool) (jw:Bytes) (jx:Bool) (jy:Int) (jz:Int) (jA:Int) (jB:Int) (jC:Int) (az:Int) (bm:Int) (bn:Int) (bo:Int) (bp:Int) (bq:Int) (br:Int) (bs:Int) (cQ:Rows) (dy:Rows) (cD:Int) (cE:Bool) (cF:Rows) (cG:Rows) (cH:Rows) (cI:Bytes) (cJ:Rows) (wj:Rows) (ba:Bool) (cK:Rows) (cL:Rows) (wk:Rows) (bb:Int) (bc:Int) (cM:Int) (bd:Int) (bf:Int) (bL:Rows) (aO:Rows) (aP:Rows) (aE:Rows) (aF:Rows) (aT:Rows):St:= {n:=83,sl:=[(1,.ptr 64 0),(2,.ptr 128 0),(3,.ptr 192 0),(4,.int .i64 k)],hp:=[(64,.box 76 [.sl [.str] nr,.sl [.int .i64,.int .i64,.int .i64,.bool] h_2,.int .i64 nt,.int .i64 nv,.int .i64 nw,.int .i64 nx,.int .i64 ny,.int .i64 nz,.int .i64 nA,.sl [.int .i64] dM,.sl [.int .i64,.int .i64,.sl [.int .i64]] dN,.int .i64 dO,.sl [.int .i64,.int .i64,.int .i64,.int .i64,.int .i64,.int .i64,.int .i64,.int .i64,.int .i64,.int .i64,.int .i64,.int .i64,.int .i64,.int .i64,.int .i64,.int .i64,.int .i64,.int .i64,.int .i64,.int .i64,.int .i64,.int .i64,.int .i64,.int .i64,.int .i64,.str,.int .i64,.int .i64,.bool,.int .i64] cX,.sl [.int .i64,.int .i64,.int .i64,.sl [.int .i64]] cn,.sl [.int .i64,.int .i64,.int .i64,.int .i64,.bool,.bool] bI,.sl [.bool] cr,.int .i64 cA,.bool cB,.sl [.int .i64] cu,.sl [.int .i64,.int .i64,.int .i64,.int .i64,.int .i64,.int .i64,.int .i64,.int .i64,.int .i64] bQ,.sl [.int .i64,.int .i64,.int .i64,.int .i64,.int .i64,.int .i64,.int .i64] bR,.str bU,.sl [.int .i64] bS,.sl [.int .i64,.int .i64,.int .i64,.int .i64,.int .i64,.int .i64,.str,.bool] cv,.bool dP,.sl [.str] cx,.sl [.int .i64] cy,.sl [.int .i64] cz,.int .i64 c_,.int .i64 da,.int .i64 db,.int .i64 dc,.int .i64 dd]),(128,.box 76 [.nil,.nil,.int .i64 b2,.int .i64 p8,.int .i64 p9,.int .i64 p_,.int .i64 qb,.int .i64 qc,.int .i64 qd,.nil,.nil,.int .i64 qe,.nil,.nil,.nil,.nil,.int .i64 wh,.bool wi,.nil,.nil,.nil,.str jw,.nil,.nil,.bool jx,.nil,.nil,.nil,.int .i64 jy,.int .i64 jz,.int .i64 jA,.int .i64 jB,.int .i64 jC]),(192,.box 76 [.own 1329152,.own 1329153,.int .i64 az,.int .i64 bm,.int .i64 bn,.int .i64 bo,.int .i64 bp,.int .i64 bq,.int .i64 br,.own 1329161,.own 1329162,.int .i64 bs,.own 1329164,.own 1329165,.sl [.int .i64,.int .i64,.int .i64,.int .i64,.bool,.bool] cQ,.sl [.bool] dy,.int .i64 cD,.bool cE,.sl [.int .i64] cF,.sl [.int .i64,.int .i64,.int .i64,.int .i64,.int .i64,.int .i64,.int .i64,.int .i64,.int .i64] cG,.sl [.int .i64,.int .i64,.int .i64,.int .i64,.int .i64,.int .i64,.int .i64] cH,.str cI,.sl [.int .i64] cJ,.sl [.int .i64,.int .i64,.int .i64,.int .i64,.int .i64,.int .i64,.str,.bool] wj,.bool ba,.sl [.str] cK,.sl [.int .i64] cL,.sl [.int .i64] wk,.int .i64 bb,.int .i64 bc,.int .i64 cM,.int .i64 bd,.int .i64 bf]),(1329152,.row 9 [.str] bL false true),(1329153,.row 157 [.int .i64,.int .i64,.int .i64,.bool] aO false true),(1329161,.row 3 [.int .i64] aP false true),(1329162,.row 96 [.int .i64,.int .i64,.sl [.int .i64]] aE false true),(1329164,.row 170 [.int .i64,.int .i64,.int .i64,.int .i64,.int .i64,.int .i64,.int .i64,.int .i64,.int .i64,.int .i64,.int .i64,.int .i64,.int .i64,.int .i64,.int .i64,.int .i64,.int .i64,.int .i64,.int .i64,.int .i64,.int .i64,.int .i64,.int .i64,.int .i64,.int .i64,.str,.int .i64,.int .i64,.bool,.int .i64] aF false true),(1329165,.row 58 [.int .i64,.int .i64,.int .i64,.sl [.int .i64]] aT false true)],ok:=true,ls:=[],lm:=[]}
noncomputable def oP (N:Nat):(St→aV)→St→aV:=dw Tryz.prog B5 B6 N Tryz.f66 wm [true,true,true,true,true,true,true,false,true,false] []
theorem acZ (N:Nat) (nr:Rows) (h_2:Rows) (nt:Int) (nv:Int) (nw:Int) (nx:Int) (ny:Int) (nz:Int) (nA:Int) (dM:Rows) (dN:Rows) (dO:Int) (cX:Rows) (cn:Rows) (bI:Rows) (cr:Rows) (cA:Int) (cB:Bool) (cu:Rows) (bQ:Rows) (bR:Rows) (bU:Bytes) (bS:Rows) (cv:Rows) (dP:Bool) (cx:Rows) (cy:Rows) (cz:Rows) (c_:Int) (da:Int) (db:Int) (dc:Int) (dd:Int) (b2:Int) (p8:Int) (p9:Int) (p_:Int) (qb:Int) (qc:Int) (qd:Int) (qe:Int) (wh:Int) (wi:Bool) (jw:Bytes) (jx:Bool) (jy:Int) (jz:Int) (jA:Int) (jB:Int) (jC:Int) (az:Int) (bm:Int) (bn:Int) (bo:Int) (bp:Int) (bq:Int) (br:Int) (bs:Int) (cQ:Rows) (dy:Rows) (cD:Int) (cE:Bool) (cF:Rows) (cG:Rows) (cH:Rows) (cI:Bytes) (cJ:Rows) (wj:Rows) (ba:Bool) (cK:Rows) (cL:Rows) (wk:Rows) (bb:Int) (bc:Int) (cM:Int) (bd:Int) (bf:Int) (bL:Rows) (aO:Rows) (aP:Rows) (aE:Rows) (aF:Rows) (ih:St→aV) (k:Int) (aT:Rows):oP N ih (oO k nr h_2 nt nv nw nx ny nz nA dM dN dO cX cn bI cr cA cB cu bQ bR bU bS cv dP cx cy cz c_ da db dc dd b2 p8 p9 p_ qb qc qd qe wh wi jw jx jy jz jA jB jC az bm bn bo bp bq br bs cQ dy cD cE cF cG cH cI cJ wj ba cK cL wk bb bc cM bd bf bL aO aP aE aF aT)=ur Vm.bad nE cn bI cr cA cB cu bQ bR bU bS cv cx cy cz az bm bn bo bp bq br bs ba bb bc cM bd bf bL aO aP aE aF (fun k aT=>ih (oO k nr h_2 nt nv nw nx ny nz nA dM dN dO cX cn bI cr cA cB cu bQ bR bU bS cv dP cx cy cz c_ da db dc dd b2 p8 p9 p_ qb qc qd qe wh wi jw jx jy jz jA jB jC az bm bn bo bp bq br bs cQ dy cD cE cF cG cH cI cJ wj ba cK cL wk bb bc cM bd bf bL aO aP aE aF aT)) k aT:=by kernel_rfl
theorem ac0 (N:Nat) (nr:Rows) (h_2:Rows) (nt:Int) (nv:Int) (nw:Int) (nx:Int) (ny:Int) (nz:Int) (nA:Int) (dM:Rows) (dN:Rows) (dO:Int) (cX:Rows) (cn:Rows) (bI:Rows) (cr:Rows) (cA:Int) (cB:Bool) (cu:Rows) (bQ:Rows) (bR:Rows) (bU:Bytes) (bS:Rows) (cv:Rows) (dP:Bool) (cx:Rows) (cy:Rows) (cz:Rows) (c_:Int) (da:Int) (db:Int) (dc:Int) (dd:Int) (b2:Int) (p8:Int) (p9:Int) (p_:Int) (qb:Int) (qc:Int) (qd:Int) (qe:Int) (wh:Int) (wi:Bool) (jw:Bytes) (jx:Bool) (jy:Int) (jz:Int) (jA:Int) (jB:Int) (jC:Int) (az:Int) (bm:Int) (bn:Int) (bo:Int) (bp:Int) (bq:Int) (br:Int) (bs:Int) (cQ:Rows) (dy:Rows) (cD:Int) (cE:Bool) (cF:Rows) (cG:Rows) (cH:Rows) (cI:Bytes) (cJ:Rows) (wj:Rows) (ba:Bool) (cK:Rows) (cL:Rows) (wk:Rows) (bb:Int) (bc:Int) (cM:Int) (bd:Int) (bf:Int) (bL:Rows) (aO:Rows) (aP:Rows) (aE:Rows) (aF:Rows) (m_:Nat):(fun k aT=>aw (oP N) m_ (oO k nr h_2 nt nv nw nx ny nz nA dM dN dO cX cn bI cr cA cB cu bQ bR bU bS cv dP cx cy cz c_ da db dc dd b2 p8 p9 p_ qb qc qd qe wh wi jw jx jy jz jA jB jC az bm bn bo bp bq br bs cQ dy cD cE cF cG cH cI cJ wj ba cK cL wk bb bc cM bd bf bL aO aP aE aF aT))=fK Vm.bad nE N cn bI cr cA cB cu bQ bR bU bS cv cx cy cz az bm bn bo bp bq br bs ba bb bc cM bd bf bL aO aP aE aF m_:=by
 induction m_ with
 | zero=>rfl
 | succ m_ ih=>
  funext k aT
  show oP N (aw (oP N) m_) (oO k nr h_2 nt nv nw nx ny nz nA dM dN dO cX cn bI cr cA cB cu bQ bR bU bS cv dP cx cy cz c_ da db dc dd b2 p8 p9 p_ qb qc qd qe wh wi jw jx jy jz jA jB jC az bm bn bo bp bq br bs cQ dy cD cE cF cG cH cI cJ wj ba cK cL wk bb bc cM bd bf bL aO aP aE aF aT)=_
  rw[acZ N nr h_2 nt nv nw nx ny nz nA dM dN dO cX cn bI cr cA cB cu bQ bR bU bS cv dP cx cy cz c_ da db dc dd b2 p8 p9 p_ qb qc qd qe wh wi jw jx jy jz jA jB jC az bm bn bo bp bq br bs cQ dy cD cE cF cG cH cI cJ wj ba cK cL wk bb bc cM bd bf bL aO aP aE aF]
  rw[ih]
  rfl
theorem agy (N:Nat) (h:aB):bg Tryz.prog B5 B6 N Tryz.f66 wm (h.enc++([]))=B7 Vm.bad nE N h:=by
 have cm:bg Tryz.prog B5 B6 N Tryz.f66 wm (h.enc++([]))=B8 Vm.bad nE (fun cn bI cr cA cB cu bQ bR bU bS cv cx cy cz az bm bn bo bp bq br bs ba bb bc cM bd bf bL aO aP aE aF k aT=>aw (oP N) N (oO k h.bV.dm h.Maps h.Tx.Ring.cP h.Tx.Ring.bB h.Tx.Ring.Head h.Tx.Ring.fk h.Tx.a_.cP h.Tx.a_.bB h.Tx.a_.Count h.Tx.a_.dn h.Tx.aG h.Tx.Next h.Rx cn bI cr cA cB cu bQ bR bU bS cv h.dp cx cy cz h.Counters.Frames h.Counters.KN h.Counters.di h.Counters.dE h.Counters.fC 0 0 0 0 0 0 0 0 0 false [] false 0 0 0 0 0 az bm bn bo bp bq br bs h.aY h.cj h.Filter.G3 h.Filter.bA h.Filter.cW h.aj.bW h.aj.Table.aL h.aj.bj.Key h.aj.bj.Table h.cO ba h.ic h.bK h.b_ bb bc cM bd bf bL aO aP aE aF aT)) h:=by kernel_rfl
 refine cm.trans ?_
 unfold B7
 have e0:(fun cn bI cr cA cB cu bQ bR bU bS cv cx cy cz az bm bn bo bp bq br bs ba bb bc cM bd bf bL aO aP aE aF k aT=>aw (oP N) N (oO k h.bV.dm h.Maps h.Tx.Ring.cP h.Tx.Ring.bB h.Tx.Ring.Head h.Tx.Ring.fk h.Tx.a_.cP h.Tx.a_.bB h.Tx.a_.Count h.Tx.a_.dn h.Tx.aG h.Tx.Next h.Rx cn bI cr cA cB cu bQ bR bU bS cv h.dp cx cy cz h.Counters.Frames h.Counters.KN h.Counters.di h.Counters.dE h.Counters.fC 0 0 0 0 0 0 0 0 0 false [] false 0 0 0 0 0 az bm bn bo bp bq br bs h.aY h.cj h.Filter.G3 h.Filter.bA h.Filter.cW h.aj.bW h.aj.Table.aL h.aj.bj.Key h.aj.bj.Table h.cO ba h.ic h.bK h.b_ bb bc cM bd bf bL aO aP aE aF aT))=(fun cn bI cr cA cB cu bQ bR bU bS cv cx cy cz az bm bn bo bp bq br bs ba bb bc cM bd bf bL aO aP aE aF=>fK Vm.bad nE N cn bI cr cA cB cu bQ bR bU bS cv cx cy cz az bm bn bo bp bq br bs ba bb bc cM bd bf bL aO aP aE aF N):=by
  funext cn bI cr cA cB cu bQ bR bU bS cv cx cy cz az bm bn bo bp bq br bs ba bb bc cM bd bf bL aO aP aE aF
  exact ac0 N h.bV.dm h.Maps h.Tx.Ring.cP h.Tx.Ring.bB h.Tx.Ring.Head h.Tx.Ring.fk h.Tx.a_.cP h.Tx.a_.bB h.Tx.a_.Count h.Tx.a_.dn h.Tx.aG h.Tx.Next h.Rx cn bI cr cA cB cu bQ bR bU bS cv h.dp cx cy cz h.Counters.Frames h.Counters.KN h.Counters.di h.Counters.dE h.Counters.fC 0 0 0 0 0 0 0 0 0 false [] false 0 0 0 0 0 az bm bn bo bp bq br bs h.aY h.cj h.Filter.G3 h.Filter.bA h.Filter.cW h.aj.bW h.aj.Table.aL h.aj.bj.Key h.aj.bj.Table h.cO ba h.ic h.bK h.b_ bb bc cM bd bf bL aO aP aE aF N
 exact congrArg (fun l_=>B8 Vm.bad nE l_ h) e0
theorem agz:Holds Tryz.prog 66 wm:=by
 refine aa (A:=B6) agx Tryz.func66 rfl (by kernel_rfl) (of_decide_eq_true (by kernel_rfl)) (of_decide_eq_true (by kernel_rfl)) ?_
 intro ds hw hok
 replace hw:WtL (aB.ct++([])) ds:=hw
 obtain⟨h,ds,rfl,h_h,hw⟩:=aB.aZ (r:=_) hw
 obtain rfl:=of_wt_nil hw
 obtain⟨N,hN⟩:=agA Vm.bad nE h h_h hok
 exact⟨N,((agy N h).trans hN).trans (by kernel_rfl)⟩
def Ic:Sum:= {ps:=[⟨[.int .i64,.int .i64,.int .i64,.int .i64,.bool,.bool],true⟩],rs:=[⟨[.imm (.int .i64),.imm (.int .i64),.imm (.int .i64),.imm (.int .i64),.imm .bool,.imm .bool],true⟩],fn:=fun ds=>(true,aC.enc (MH (aC.ae ds 0)))}
def O0:Ctx:=[(187,MI)]
theorem agB:ai Tryz.prog O0:=ab agC aq
def O1:List (Nat×dv):=[]
theorem agD (N:Nat) (v:aC):bg Tryz.prog O0 O1 N Tryz.f148 Ic (v.enc++([]))=B9 (fun r0=>((true,aC.enc r0):aV)) v:=by kernel_rfl
theorem agE:Holds Tryz.prog 148 Ic:=by
 refine aa (A:=O1) agB Tryz.func148 rfl (by kernel_rfl) (of_decide_eq_true (by kernel_rfl)) (of_decide_eq_true (by kernel_rfl)) ?_
 intro ds hw hok
 replace hw:WtL (aC.ct++([])) ds:=hw
 obtain⟨v,ds,rfl,h_v,hw⟩:=aC.aZ (r:=_) hw
 obtain rfl:=of_wt_nil hw
 exact⟨0,((agD 0 v).trans (agF _ v)).trans (by kernel_rfl)⟩
def Gf:Sum:= {ps:=[⟨[.int .i64,.int .i64,.int .i64,.int .i64,.bool,.bool],true⟩],rs:=[⟨[.imm (.int .i64),.imm (.int .i64),.imm (.int .i64),.imm (.int .i64),.imm .bool,.imm .bool],true⟩],fn:=fun ds=>(true,aC.enc (MH (aC.ae ds 0)))}
def Nn:Ctx:=[(178,EW)]
theorem ac1:ai Tryz.prog Nn:=ab RT aq
def Np:List (Nat×dv):=[]
theorem ac2 (N:Nat) (v:aC):bg Tryz.prog Nn Np N Tryz.f130 Gf (v.enc++([]))=Gg (fun r0=>((true,aC.enc r0):aV)) v:=by kernel_rfl
theorem ac3:Holds Tryz.prog 130 Gf:=by
 refine aa (A:=Np) ac1 Tryz.func130 rfl (by kernel_rfl) (of_decide_eq_true (by kernel_rfl)) (of_decide_eq_true (by kernel_rfl)) ?_
 intro ds hw hok
 replace hw:WtL (aC.ct++([])) ds:=hw
 obtain⟨v,ds,rfl,h_v,hw⟩:=aC.aZ (r:=_) hw
 obtain rfl:=of_wt_nil hw
 exact⟨0,((ac2 0 v).trans (ac4 _ v h_v)).trans (by kernel_rfl)⟩
def B_:Sum:= {ps:=[⟨[.int .i64,.int .i64,.int .i64,.int .i64,.bool,.bool],true⟩],rs:=[⟨[.imm (.int .i64),.imm (.int .i64),.imm (.int .i64),.imm (.int .i64),.imm .bool,.imm .bool],true⟩],fn:=fun ds=>(true,aC.enc (nF (aC.ae ds 0)))}
def JM:Ctx:=[(146,zR),(148,Ic)]
theorem Wa:ai Tryz.prog JM:=ab Nl (ab agE aq)
def JN:List (Nat×dv):=[]
theorem Wb (N:Nat) (v:aC):bg Tryz.prog JM JN N Tryz.f71 B_ (v.enc++([]))=Ca (fun r0=>((true,aC.enc r0):aV)) v:=by kernel_rfl
theorem Wc:Holds Tryz.prog 71 B_:=by
 refine aa (A:=JN) Wa Tryz.func71 rfl (by kernel_rfl) (of_decide_eq_true (by kernel_rfl)) (of_decide_eq_true (by kernel_rfl)) ?_
 intro ds hw hok
 replace hw:WtL (aC.ct++([])) ds:=hw
 obtain⟨v,ds,rfl,h_v,hw⟩:=aC.aZ (r:=_) hw
 obtain rfl:=of_wt_nil hw
 exact⟨0,((Wb 0 v).trans (Wd _ v)).trans (by kernel_rfl)⟩
def Cb:Sum:= {ps:=[⟨[.int .i64,.int .i64,.int .i64,.int .i64,.bool,.bool],true⟩],rs:=[⟨[.imm (.int .i64),.imm (.int .i64),.imm (.int .i64),.imm (.int .i64),.imm .bool,.imm .bool],true⟩],fn:=fun ds=>(true,aC.enc (nF (aC.ae ds 0)))}
def JO:Ctx:=[(129,zS),(130,Gf)]
theorem We:ai Tryz.prog JO:=ab Nm (ab ac3 aq)
def JP:List (Nat×dv):=[]
theorem Wf (N:Nat) (v:aC):bg Tryz.prog JO JP N Tryz.f68 Cb (v.enc++([]))=Cc (fun r0=>((true,aC.enc r0):aV)) v:=by kernel_rfl
theorem Wg:Holds Tryz.prog 68 Cb:=by
 refine aa (A:=JP) We Tryz.func68 rfl (by kernel_rfl) (of_decide_eq_true (by kernel_rfl)) (of_decide_eq_true (by kernel_rfl)) ?_
 intro ds hw hok
 replace hw:WtL (aC.ct++([])) ds:=hw
 obtain⟨v,ds,rfl,h_v,hw⟩:=aC.aZ (r:=_) hw
 obtain rfl:=of_wt_nil hw
 exact⟨0,((Wf 0 v).trans (Wh _ v h_v)).trans (by kernel_rfl)⟩
def uv:Sum:= {ps:=[⟨[.sl [.str],.sl [.int .i64,.int .i64,.int .i64,.bool],.int .i64,.int .i64,.int .i64,.int .i64,.int .i64,.int .i64,.int .i64,.sl [.int .i64],.sl [.int .i64,.int .i64,.sl [.int .i64]],.int .i64,.sl [.int .i64,.int .i64,.int .i64,.int .i64,.int .i64,.int .i64,.int .i64,.int .i64,.int .i64,.int .i64,.int .i64,.int .i64,.int .i64,.int .i64,.int .i64,.int .i64,.int .i64,.int .i64,.int .i64,.int .i64,.int .i64,.int .i64,.int .i64,.int .i64,.int .i64,.str,.int .i64,.int .i64,.bool,.int .i64],.sl [.int .i64,.int .i64,.int .i64,.sl [.int .i64]],.sl [.int .i64,.int .i64,.int .i64,.int .i64,.bool,.bool],.sl [.bool],.int .i64,.bool,.sl [.int .i64],.sl [.int .i64,.int .i64,.int .i64,.int .i64,.int .i64,.int .i64,.int .i64,.int .i64,.int .i64],.sl [.int .i64,.int .i64,.int .i64,.int .i64,.int .i64,.int .i64,.int .i64],.str,.sl [.int .i64],.sl [.int .i64,.int .i64,.int .i64,.int .i64,.int .i64,.int .i64,.str,.bool],.bool,.sl [.str],.sl [.int .i64],.sl [.int .i64],.int .i64,.int .i64,.int .i64,.int .i64,.int .i64],true⟩],rs:=[⟨[.own 9 [.str],.own 157 [.int .i64,.int .i64,.int .i64,.bool],.imm (.int .i64),.imm (.int .i64),.imm (.int .i64),.imm (.int .i64),.imm (.int .i64),.imm (.int .i64),.imm (.int .i64),.own 3 [.int .i64],.deep 96 [.int .i64,.int .i64,.sl [.int .i64]] [3],.imm (.int .i64),.own 170 [.int .i64,.int .i64,.int .i64,.int .i64,.int .i64,.int .i64,.int .i64,.int .i64,.int .i64,.int .i64,.int .i64,.int .i64,.int .i64,.int .i64,.int .i64,.int .i64,.int .i64,.int .i64,.int .i64,.int .i64,.int .i64,.int .i64,.int .i64,.int .i64,.int .i64,.str,.int .i64,.int .i64,.bool,.int .i64],.deep 58 [.int .i64,.int .i64,.int .i64,.sl [.int .i64]] [3],.own 133 [.int .i64,.int .i64,.int .i64,.int .i64,.bool,.bool],.own 4 [.bool],.imm (.int .i64),.imm .bool,.own 3 [.int .i64],.own 221 [.int .i64,.int .i64,.int .i64,.int .i64,.int .i64,.int .i64,.int .i64,.int .i64,.int .i64],.own 242 [.int .i64,.int .i64,.int .i64,.int .i64,.int .i64,.int .i64,.int .i64],.imm .str,.own 3 [.int .i64],.own 179 [.int .i64,.int .i64,.int .i64,.int .i64,.int .i64,.int .i64,.str,.bool],.imm .bool,.own 9 [.str],.own 3 [.int .i64],.own 3 [.int .i64],.imm (.int .i64),.imm (.int .i64),.imm (.int .i64),.imm (.int .i64),.imm (.int .i64)],true⟩],fn:=fun ds=>(sU (aB.ae ds 0),aB.enc (dr (aB.ae ds 0)))}
def Aa:Ctx:=[(69,uq),(70,uS),(71,B_)]
theorem ac5:ai Tryz.prog Aa:=ab acX (ab ajy (ab Wc aq))
def Ab:List (Nat×dv):=[(5, {bJ:=[(2,.aU),(3,.aU),(13,.aU),(14,.aU)],boxes:=[(64,[]),(128,[]),(192,[])]})]
def ll:aB→aV:=(fun r0=>((true,aB.enc r0):aV))
def mA (x:Int) (bl:Int) (nr:Rows) (h_2:Rows) (nt:Int) (nv:Int) (nw:Int) (nx:Int) (ny:Int) (nz:Int) (nA:Int) (dM:Rows) (dN:Rows) (dO:Int) (cX:Rows) (cn:Rows) (bI:Rows) (cr:Rows) (cA:Int) (cB:Bool) (cu:Rows) (bQ:Rows) (bR:Rows) (bU:Bytes) (bS:Rows) (cv:Rows) (dP:Bool) (cx:Rows) (cy:Rows) (cz:Rows) (c_:Int) (da:Int) (db:Int) (dc:Int) (dd:Int) (b2:Int) (p8:Int) (p9:Int) (p_:Int) (qb:Int) (qc:Int) (qd:Int) (qe:Int) (wh:Int) (wi:Bool) (jw:Bytes) (jx:Bool) (jy:Int) (jz:Int) (jA:Int) (jB:Int) (jC:Int) (az:Int) (bm:Int) (bn:Int) (bo:Int) (bp:Int) (bq:Int) (br:Int) (bs:Int) (cQ:Int) (dy:Bool) (cD:Bytes) (cE:Bool) (cF:Int) (cG:Int) (cH:Int) (cI:Int) (cJ:Int) (bL:Rows) (aO:Rows) (aP:Rows) (aE:Rows) (aF:Rows) (aT:Rows) (cC:Rows) (bY:Rows) (ba:Rows) (cK:Rows) (cL:Rows) (bb:Rows) (bc:Rows) (bd:Rows) (bf:Rows) (dx:Rows):St:= {n:=29,sl:=[(2,.ptr 128 0),(3,.ptr 192 0),(13,.int .i64 x),(14,.int .i64 bl)],hp:=[(64,.box 76 [.sl [.str] nr,.sl [.int .i64,.int .i64,.int .i64,.bool] h_2,.int .i64 nt,.int .i64 nv,.int .i64 nw,.int .i64 nx,.int .i64 ny,.int .i64 nz,.int .i64 nA,.sl [.int .i64] dM,.sl [.int .i64,.int .i64,.sl [.int .i64]] dN,.int .i64 dO,.sl [.int .i64,.int .i64,.int .i64,.int .i64,.int .i64,.int .i64,.int .i64,.int .i64,.int .i64,.int .i64,.int .i64,.int .i64,.int .i64,.int .i64,.int .i64,.int .i64,.int .i64,.int .i64,.int .i64,.int .i64,.int .i64,.int .i64,.int .i64,.int .i64,.int .i64,.str,.int .i64,.int .i64,.bool,.int .i64] cX,.sl [.int .i64,.int .i64,.int .i64,.sl [.int .i64]] cn,.sl [.int .i64,.int .i64,.int .i64,.int .i64,.bool,.bool] bI,.sl [.bool] cr,.int .i64 cA,.bool cB,.sl [.int .i64] cu,.sl [.int .i64,.int .i64,.int .i64,.int .i64,.int .i64,.int .i64,.int .i64,.int .i64,.int .i64] bQ,.sl [.int .i64,.int .i64,.int .i64,.int .i64,.int .i64,.int .i64,.int .i64] bR,.str bU,.sl [.int .i64] bS,.sl [.int .i64,.int .i64,.int .i64,.int .i64,.int .i64,.int .i64,.str,.bool] cv,.bool dP,.sl [.str] cx,.sl [.int .i64] cy,.sl [.int .i64] cz,.int .i64 c_,.int .i64 da,.int .i64 db,.int .i64 dc,.int .i64 dd]),(128,.box 76 [.nil,.nil,.int .i64 b2,.int .i64 p8,.int .i64 p9,.int .i64 p_,.int .i64 qb,.int .i64 qc,.int .i64 qd,.nil,.nil,.int .i64 qe,.nil,.nil,.nil,.nil,.int .i64 wh,.bool wi,.nil,.nil,.nil,.str jw,.nil,.nil,.bool jx,.nil,.nil,.nil,.int .i64 jy,.int .i64 jz,.int .i64 jA,.int .i64 jB,.int .i64 jC]),(192,.box 76 [.own 1329152,.own 1329153,.int .i64 az,.int .i64 bm,.int .i64 bn,.int .i64 bo,.int .i64 bp,.int .i64 bq,.int .i64 br,.own 1329161,.own 1329162,.int .i64 bs,.own 1329164,.own 1329165,.own 1329166,.own 1329167,.int .i64 cQ,.bool dy,.own 1329170,.own 1329171,.own 1329172,.str cD,.own 1329174,.own 1329175,.bool cE,.own 1329177,.own 1329178,.own 1329179,.int .i64 cF,.int .i64 cG,.int .i64 cH,.int .i64 cI,.int .i64 cJ]),(1329152,.row 9 [.str] bL false true),(1329153,.row 157 [.int .i64,.int .i64,.int .i64,.bool] aO false true),(1329161,.row 3 [.int .i64] aP false true),(1329162,.deep 96 [.int .i64,.int .i64,.sl [.int .i64]] [3] aE none),(1329164,.row 170 [.int .i64,.int .i64,.int .i64,.int .i64,.int .i64,.int .i64,.int .i64,.int .i64,.int .i64,.int .i64,.int .i64,.int .i64,.int .i64,.int .i64,.int .i64,.int .i64,.int .i64,.int .i64,.int .i64,.int .i64,.int .i64,.int .i64,.int .i64,.int .i64,.int .i64,.str,.int .i64,.int .i64,.bool,.int .i64] aF false true),(1329165,.deep 58 [.int .i64,.int .i64,.int .i64,.sl [.int .i64]] [3] aT none),(1329166,.row 133 [.int .i64,.int .i64,.int .i64,.int .i64,.bool,.bool] cC false true),(1329167,.row 4 [.bool] bY false true),(1329170,.row 3 [.int .i64] ba false true),(1329171,.row 221 [.int .i64,.int .i64,.int .i64,.int .i64,.int .i64,.int .i64,.int .i64,.int .i64,.int .i64] cK false true),(1329172,.row 242 [.int .i64,.int .i64,.int .i64,.int .i64,.int .i64,.int .i64,.int .i64] cL false true),(1329174,.row 3 [.int .i64] bb false true),(1329175,.row 179 [.int .i64,.int .i64,.int .i64,.int .i64,.int .i64,.int .i64,.str,.bool] bc false true),(1329177,.row 9 [.str] bd false true),(1329178,.row 3 [.int .i64] bf false true),(1329179,.row 3 [.int .i64] dx false true)],ok:=true,ls:=[],lm:=[]}
noncomputable def mB (N:Nat):(St→aV)→St→aV:=dw Tryz.prog Aa Ab N Tryz.f15 uv [true,true,true,false,true,false] []
theorem Za (N:Nat) (x:Int) (nr:Rows) (h_2:Rows) (nt:Int) (nv:Int) (nw:Int) (nx:Int) (ny:Int) (nz:Int) (nA:Int) (dM:Rows) (dN:Rows) (dO:Int) (cX:Rows) (cn:Rows) (bI:Rows) (cr:Rows) (cA:Int) (cB:Bool) (cu:Rows) (bQ:Rows) (bR:Rows) (bU:Bytes) (bS:Rows) (cv:Rows) (dP:Bool) (cx:Rows) (cy:Rows) (cz:Rows) (c_:Int) (da:Int) (db:Int) (dc:Int) (dd:Int) (b2:Int) (p8:Int) (p9:Int) (p_:Int) (qb:Int) (qc:Int) (qd:Int) (qe:Int) (wh:Int) (wi:Bool) (jw:Bytes) (jx:Bool) (jy:Int) (jz:Int) (jA:Int) (jB:Int) (jC:Int) (az:Int) (bm:Int) (bn:Int) (bo:Int) (bp:Int) (bq:Int) (br:Int) (bs:Int) (cQ:Int) (dy:Bool) (cD:Bytes) (cE:Bool) (cF:Int) (cG:Int) (cH:Int) (cI:Int) (cJ:Int) (bL:Rows) (aO:Rows) (aP:Rows) (aE:Rows) (aF:Rows) (aT:Rows) (bY:Rows) (ba:Rows) (cK:Rows) (cL:Rows) (bb:Rows) (bc:Rows) (bd:Rows) (bf:Rows) (dx:Rows) (ih:St→aV) (bl:Int) (cC:Rows):mB N ih (mA x bl nr h_2 nt nv nw nx ny nz nA dM dN dO cX cn bI cr cA cB cu bQ bR bU bS cv dP cx cy cz c_ da db dc dd b2 p8 p9 p_ qb qc qd qe wh wi jw jx jy jz jA jB jC az bm bn bo bp bq br bs cQ dy cD cE cF cG cH cI cJ bL aO aP aE aF aT cC bY ba cK cL bb bc bd bf dx)=rZ Vm.bad ll x az bm bn bo bp bq br bs cQ dy cD cE cF cG cH cI cJ bL aO aP aE aF aT bY ba cK cL bb bc bd bf dx (fun bl cC=>ih (mA x bl nr h_2 nt nv nw nx ny nz nA dM dN dO cX cn bI cr cA cB cu bQ bR bU bS cv dP cx cy cz c_ da db dc dd b2 p8 p9 p_ qb qc qd qe wh wi jw jx jy jz jA jB jC az bm bn bo bp bq br bs cQ dy cD cE cF cG cH cI cJ bL aO aP aE aF aT cC bY ba cK cL bb bc bd bf dx)) bl cC:=by kernel_rfl
theorem Zb (N:Nat) (x:Int) (nr:Rows) (h_2:Rows) (nt:Int) (nv:Int) (nw:Int) (nx:Int) (ny:Int) (nz:Int) (nA:Int) (dM:Rows) (dN:Rows) (dO:Int) (cX:Rows) (cn:Rows) (bI:Rows) (cr:Rows) (cA:Int) (cB:Bool) (cu:Rows) (bQ:Rows) (bR:Rows) (bU:Bytes) (bS:Rows) (cv:Rows) (dP:Bool) (cx:Rows) (cy:Rows) (cz:Rows) (c_:Int) (da:Int) (db:Int) (dc:Int) (dd:Int) (b2:Int) (p8:Int) (p9:Int) (p_:Int) (qb:Int) (qc:Int) (qd:Int) (qe:Int) (wh:Int) (wi:Bool) (jw:Bytes) (jx:Bool) (jy:Int) (jz:Int) (jA:Int) (jB:Int) (jC:Int) (az:Int) (bm:Int) (bn:Int) (bo:Int) (bp:Int) (bq:Int) (br:Int) (bs:Int) (cQ:Int) (dy:Bool) (cD:Bytes) (cE:Bool) (cF:Int) (cG:Int) (cH:Int) (cI:Int) (cJ:Int) (bL:Rows) (aO:Rows) (aP:Rows) (aE:Rows) (aF:Rows) (aT:Rows) (bY:Rows) (ba:Rows) (cK:Rows) (cL:Rows) (bb:Rows) (bc:Rows) (bd:Rows) (bf:Rows) (dx:Rows) (m_:Nat):(fun bl cC=>aw (mB N) m_ (mA x bl nr h_2 nt nv nw nx ny nz nA dM dN dO cX cn bI cr cA cB cu bQ bR bU bS cv dP cx cy cz c_ da db dc dd b2 p8 p9 p_ qb qc qd qe wh wi jw jx jy jz jA jB jC az bm bn bo bp bq br bs cQ dy cD cE cF cG cH cI cJ bL aO aP aE aF aT cC bY ba cK cL bb bc bd bf dx))=gr Vm.bad ll N x az bm bn bo bp bq br bs cQ dy cD cE cF cG cH cI cJ bL aO aP aE aF aT bY ba cK cL bb bc bd bf dx m_:=by
 induction m_ with
 | zero=>rfl
 | succ m_ ih=>
  funext bl cC
  show mB N (aw (mB N) m_) (mA x bl nr h_2 nt nv nw nx ny nz nA dM dN dO cX cn bI cr cA cB cu bQ bR bU bS cv dP cx cy cz c_ da db dc dd b2 p8 p9 p_ qb qc qd qe wh wi jw jx jy jz jA jB jC az bm bn bo bp bq br bs cQ dy cD cE cF cG cH cI cJ bL aO aP aE aF aT cC bY ba cK cL bb bc bd bf dx)=_
  rw[Za N x nr h_2 nt nv nw nx ny nz nA dM dN dO cX cn bI cr cA cB cu bQ bR bU bS cv dP cx cy cz c_ da db dc dd b2 p8 p9 p_ qb qc qd qe wh wi jw jx jy jz jA jB jC az bm bn bo bp bq br bs cQ dy cD cE cF cG cH cI cJ bL aO aP aE aF aT bY ba cK cL bb bc bd bf dx]
  rw[ih]
  rfl
theorem ac6 (N:Nat) (h:aB):bg Tryz.prog Aa Ab N Tryz.f15 uv (h.enc++([]))=Ac Vm.bad ll N h:=by
 have cm:bg Tryz.prog Aa Ab N Tryz.f15 uv (h.enc++([]))=Ad Vm.bad ll (fun x az bm bn bo bp bq br bs cQ dy cD cE cF cG cH cI cJ bL aO aP aE aF aT bY ba cK cL bb bc bd bf dx bl cC=>aw (mB N) N (mA x bl h.bV.dm h.Maps h.Tx.Ring.cP h.Tx.Ring.bB h.Tx.Ring.Head h.Tx.Ring.fk h.Tx.a_.cP h.Tx.a_.bB h.Tx.a_.Count h.Tx.a_.dn h.Tx.aG h.Tx.Next h.Rx h.bN h.aY h.cj h.Filter.G3 h.Filter.bA h.Filter.cW h.aj.bW h.aj.Table.aL h.aj.bj.Key h.aj.bj.Table h.cO h.dp h.ic h.bK h.b_ h.Counters.Frames h.Counters.KN h.Counters.di h.Counters.dE h.Counters.fC 0 0 0 0 0 0 0 0 0 false [] false 0 0 0 0 0 az bm bn bo bp bq br bs cQ dy cD cE cF cG cH cI cJ bL aO aP aE aF aT cC bY ba cK cL bb bc bd bf dx)) h:=by kernel_rfl
 refine cm.trans ?_
 unfold Ac
 have e0:(fun x az bm bn bo bp bq br bs cQ dy cD cE cF cG cH cI cJ bL aO aP aE aF aT bY ba cK cL bb bc bd bf dx bl cC=>aw (mB N) N (mA x bl h.bV.dm h.Maps h.Tx.Ring.cP h.Tx.Ring.bB h.Tx.Ring.Head h.Tx.Ring.fk h.Tx.a_.cP h.Tx.a_.bB h.Tx.a_.Count h.Tx.a_.dn h.Tx.aG h.Tx.Next h.Rx h.bN h.aY h.cj h.Filter.G3 h.Filter.bA h.Filter.cW h.aj.bW h.aj.Table.aL h.aj.bj.Key h.aj.bj.Table h.cO h.dp h.ic h.bK h.b_ h.Counters.Frames h.Counters.KN h.Counters.di h.Counters.dE h.Counters.fC 0 0 0 0 0 0 0 0 0 false [] false 0 0 0 0 0 az bm bn bo bp bq br bs cQ dy cD cE cF cG cH cI cJ bL aO aP aE aF aT cC bY ba cK cL bb bc bd bf dx))=(fun x az bm bn bo bp bq br bs cQ dy cD cE cF cG cH cI cJ bL aO aP aE aF aT bY ba cK cL bb bc bd bf dx=>gr Vm.bad ll N x az bm bn bo bp bq br bs cQ dy cD cE cF cG cH cI cJ bL aO aP aE aF aT bY ba cK cL bb bc bd bf dx N):=by
  funext x az bm bn bo bp bq br bs cQ dy cD cE cF cG cH cI cJ bL aO aP aE aF aT bY ba cK cL bb bc bd bf dx
  exact Zb N x h.bV.dm h.Maps h.Tx.Ring.cP h.Tx.Ring.bB h.Tx.Ring.Head h.Tx.Ring.fk h.Tx.a_.cP h.Tx.a_.bB h.Tx.a_.Count h.Tx.a_.dn h.Tx.aG h.Tx.Next h.Rx h.bN h.aY h.cj h.Filter.G3 h.Filter.bA h.Filter.cW h.aj.bW h.aj.Table.aL h.aj.bj.Key h.aj.bj.Table h.cO h.dp h.ic h.bK h.b_ h.Counters.Frames h.Counters.KN h.Counters.di h.Counters.dE h.Counters.fC 0 0 0 0 0 0 0 0 0 false [] false 0 0 0 0 0 az bm bn bo bp bq br bs cQ dy cD cE cF cG cH cI cJ bL aO aP aE aF aT bY ba cK cL bb bc bd bf dx N
 exact congrArg (fun l_=>Ad Vm.bad ll l_ h) e0
theorem ac7:Holds Tryz.prog 15 uv:=by
 refine aa (A:=Ab) ac5 Tryz.func15 rfl (by kernel_rfl) (of_decide_eq_true (by kernel_rfl)) (of_decide_eq_true (by kernel_rfl)) ?_
 intro ds hw hok
 replace hw:WtL (aB.ct++([])) ds:=hw
 obtain⟨h,ds,rfl,h_h,hw⟩:=aB.aZ (r:=_) hw
 obtain rfl:=of_wt_nil hw
 obtain⟨N,hN⟩:=ac8 Vm.bad ll h h_h hok
 exact⟨N,((ac6 N h).trans hN).trans (by kernel_rfl)⟩
def uw:Sum:= {ps:=[⟨[.sl [.str],.sl [.int .i64,.int .i64,.int .i64,.bool],.int .i64,.int .i64,.int .i64,.int .i64,.int .i64,.int .i64,.int .i64,.sl [.int .i64],.sl [.int .i64,.int .i64,.sl [.int .i64]],.int .i64,.sl [.int .i64,.int .i64,.int .i64,.int .i64,.int .i64,.int .i64,.int .i64,.int .i64,.int .i64,.int .i64,.int .i64,.int .i64,.int .i64,.int .i64,.int .i64,.int .i64,.int .i64,.int .i64,.int .i64,.int .i64,.int .i64,.int .i64,.int .i64,.int .i64,.int .i64,.str,.int .i64,.int .i64,.bool,.int .i64],.sl [.int .i64,.int .i64,.int .i64,.sl [.int .i64]],.sl [.int .i64,.int .i64,.int .i64,.int .i64,.bool,.bool],.sl [.bool],.int .i64,.bool,.sl [.int .i64],.sl [.int .i64,.int .i64,.int .i64,.int .i64,.int .i64,.int .i64,.int .i64,.int .i64,.int .i64],.sl [.int .i64,.int .i64,.int .i64,.int .i64,.int .i64,.int .i64,.int .i64],.str,.sl [.int .i64],.sl [.int .i64,.int .i64,.int .i64,.int .i64,.int .i64,.int .i64,.str,.bool],.bool,.sl [.str],.sl [.int .i64],.sl [.int .i64],.int .i64,.int .i64,.int .i64,.int .i64,.int .i64],true⟩],rs:=[⟨[.own 9 [.str],.own 157 [.int .i64,.int .i64,.int .i64,.bool],.imm (.int .i64),.imm (.int .i64),.imm (.int .i64),.imm (.int .i64),.imm (.int .i64),.imm (.int .i64),.imm (.int .i64),.own 3 [.int .i64],.own 96 [.int .i64,.int .i64,.sl [.int .i64]],.imm (.int .i64),.own 170 [.int .i64,.int .i64,.int .i64,.int .i64,.int .i64,.int .i64,.int .i64,.int .i64,.int .i64,.int .i64,.int .i64,.int .i64,.int .i64,.int .i64,.int .i64,.int .i64,.int .i64,.int .i64,.int .i64,.int .i64,.int .i64,.int .i64,.int .i64,.int .i64,.int .i64,.str,.int .i64,.int .i64,.bool,.int .i64],.own 58 [.int .i64,.int .i64,.int .i64,.sl [.int .i64]],.own 133 [.int .i64,.int .i64,.int .i64,.int .i64,.bool,.bool],.own 4 [.bool],.imm (.int .i64),.imm .bool,.own 3 [.int .i64],.own 221 [.int .i64,.int .i64,.int .i64,.int .i64,.int .i64,.int .i64,.int .i64,.int .i64,.int .i64],.own 242 [.int .i64,.int .i64,.int .i64,.int .i64,.int .i64,.int .i64,.int .i64],.imm .str,.own 3 [.int .i64],.own 179 [.int .i64,.int .i64,.int .i64,.int .i64,.int .i64,.int .i64,.str,.bool],.imm .bool,.own 9 [.str],.own 3 [.int .i64],.own 3 [.int .i64],.imm (.int .i64),.imm (.int .i64),.imm (.int .i64),.imm (.int .i64),.imm (.int .i64)],true⟩],fn:=fun ds=>(sU (aB.ae ds 0),aB.enc (dr (aB.ae ds 0)))}
def Ae:Ctx:=[(66,wm),(67,uT),(68,Cb)]
theorem ac9:ai Tryz.prog Ae:=ab agz (ab ajC (ab Wg aq))
def Af:List (Nat×dv):=[(3, {bJ:=[(1,.aU),(2,.aU),(3,.aU),(4,.aU)],boxes:=[(64,[]),(128,[]),(192,[])]})]
def ln:aB→aV:=(fun r0=>((true,aB.enc r0):aV))
def mC (k:Int) (nr:Rows) (h_2:Rows) (nt:Int) (nv:Int) (nw:Int) (nx:Int) (ny:Int) (nz:Int) (nA:Int) (dM:Rows) (dN:Rows) (dO:Int) (cX:Rows) (cn:Rows) (bI:Rows) (cr:Rows) (cA:Int) (cB:Bool) (cu:Rows) (bQ:Rows) (bR:Rows) (bU:Bytes) (bS:Rows) (cv:Rows) (dP:Bool) (cx:Rows) (cy:Rows) (cz:Rows) (c_:Int) (da:Int) (db:Int) (dc:Int) (dd:Int) (b2:Int) (p8:Int) (p9:Int) (p_:Int) (qb:Int) (qc:Int) (qd:Int) (qe:Int) (wh:Int) (wi:Bool) (jw:Bytes) (jx:Bool) (jy:Int) (jz:Int) (jA:Int) (jB:Int) (jC:Int) (az:Int) (bm:Int) (bn:Int) (bo:Int) (bp:Int) (bq:Int) (br:Int) (bs:Int) (cQ:Int) (dy:Bool) (cD:Bytes) (cE:Bool) (cF:Int) (cG:Int) (cH:Int) (cI:Int) (cJ:Int) (bL:Rows) (aO:Rows) (aP:Rows) (aE:Rows) (aF:Rows) (aT:Rows) (cC:Rows) (bY:Rows) (ba:Rows) (cK:Rows) (cL:Rows) (bb:Rows) (bc:Rows) (bd:Rows) (bf:Rows) (dx:Rows):St:= {n:=29,sl:=[(1,.ptr 64 0),(2,.ptr 128 0),(3,.ptr 192 0),(4,.int .i64 k)],hp:=[(64,.box 76 [.sl [.str] nr,.sl [.int .i64,.int .i64,.int .i64,.bool] h_2,.int .i64 nt,.int .i64 nv,.int .i64 nw,.int .i64 nx,.int .i64 ny,.int .i64 nz,.int .i64 nA,.sl [.int .i64] dM,.sl [.int .i64,.int .i64,.sl [.int .i64]] dN,.int .i64 dO,.sl [.int .i64,.int .i64,.int .i64,.int .i64,.int .i64,.int .i64,.int .i64,.int .i64,.int .i64,.int .i64,.int .i64,.int .i64,.int .i64,.int .i64,.int .i64,.int .i64,.int .i64,.int .i64,.int .i64,.int .i64,.int .i64,.int .i64,.int .i64,.int .i64,.int .i64,.str,.int .i64,.int .i64,.bool,.int .i64] cX,.sl [.int .i64,.int .i64,.int .i64,.sl [.int .i64]] cn,.sl [.int .i64,.int .i64,.int .i64,.int .i64,.bool,.bool] bI,.sl [.bool] cr,.int .i64 cA,.bool cB,.sl [.int .i64] cu,.sl [.int .i64,.int .i64,.int .i64,.int .i64,.int .i64,.int .i64,.int .i64,.int .i64,.int .i64] bQ,.sl [.int .i64,.int .i64,.int .i64,.int .i64,.int .i64,.int .i64,.int .i64] bR,.str bU,.sl [.int .i64] bS,.sl [.int .i64,.int .i64,.int .i64,.int .i64,.int .i64,.int .i64,.str,.bool] cv,.bool dP,.sl [.str] cx,.sl [.int .i64] cy,.sl [.int .i64] cz,.int .i64 c_,.int .i64 da,.int .i64 db,.int .i64 dc,.int .i64 dd]),(128,.box 76 [.nil,.nil,.int .i64 b2,.int .i64 p8,.int .i64 p9,.int .i64 p_,.int .i64 qb,.int .i64 qc,.int .i64 qd,.nil,.nil,.int .i64 qe,.nil,.nil,.nil,.nil,.int .i64 wh,.bool wi,.nil,.nil,.nil,.str jw,.nil,.nil,.bool jx,.nil,.nil,.nil,.int .i64 jy,.int .i64 jz,.int .i64 jA,.int .i64 jB,.int .i64 jC]),(192,.box 76 [.own 1329152,.own 1329153,.int .i64 az,.int .i64 bm,.int .i64 bn,.int .i64 bo,.int .i64 bp,.int .i64 bq,.int .i64 br,.own 1329161,.own 1329162,.int .i64 bs,.own 1329164,.own 1329165,.own 1329166,.own 1329167,.int .i64 cQ,.bool dy,.own 1329170,.own 1329171,.own 1329172,.str cD,.own 1329174,.own 1329175,.bool cE,.own 1329177,.own 1329178,.own 1329179,.int .i64 cF,.int .i64 cG,.int .i64 cH,.int .i64 cI,.int .i64 cJ]),(1329152,.row 9 [.str] bL false true),(1329153,.row 157 [.int .i64,.int .i64,.int .i64,.bool] aO false true),(1329161,.row 3 [.int .i64] aP false true),(1329162,.row 96 [.int .i64,.int .i64,.sl [.int .i64]] aE false true),(1329164,.row 170 [.int .i64,.int .i64,.int .i64,.int .i64,.int .i64,.int .i64,.int .i64,.int .i64,.int .i64,.int .i64,.int .i64,.int .i64,.int .i64,.int .i64,.int .i64,.int .i64,.int .i64,.int .i64,.int .i64,.int .i64,.int .i64,.int .i64,.int .i64,.int .i64,.int .i64,.str,.int .i64,.int .i64,.bool,.int .i64] aF false true),(1329165,.row 58 [.int .i64,.int .i64,.int .i64,.sl [.int .i64]] aT false true),(1329166,.row 133 [.int .i64,.int .i64,.int .i64,.int .i64,.bool,.bool] cC false true),(1329167,.row 4 [.bool] bY false true),(1329170,.row 3 [.int .i64] ba false true),(1329171,.row 221 [.int .i64,.int .i64,.int .i64,.int .i64,.int .i64,.int .i64,.int .i64,.int .i64,.int .i64] cK false true),(1329172,.row 242 [.int .i64,.int .i64,.int .i64,.int .i64,.int .i64,.int .i64,.int .i64] cL false true),(1329174,.row 3 [.int .i64] bb false true),(1329175,.row 179 [.int .i64,.int .i64,.int .i64,.int .i64,.int .i64,.int .i64,.str,.bool] bc false true),(1329177,.row 9 [.str] bd false true),(1329178,.row 3 [.int .i64] bf false true),(1329179,.row 3 [.int .i64] dx false true)],ok:=true,ls:=[],lm:=[]}
noncomputable def mD (N:Nat):(St→aV)→St→aV:=dw Tryz.prog Ae Af N Tryz.f14 uw [true,true,false,true,false] []
theorem Zc (N:Nat) (nr:Rows) (h_2:Rows) (nt:Int) (nv:Int) (nw:Int) (nx:Int) (ny:Int) (nz:Int) (nA:Int) (dM:Rows) (dN:Rows) (dO:Int) (cX:Rows) (cn:Rows) (bI:Rows) (cr:Rows) (cA:Int) (cB:Bool) (cu:Rows) (bQ:Rows) (bR:Rows) (bU:Bytes) (bS:Rows) (cv:Rows) (dP:Bool) (cx:Rows) (cy:Rows) (cz:Rows) (c_:Int) (da:Int) (db:Int) (dc:Int) (dd:Int) (b2:Int) (p8:Int) (p9:Int) (p_:Int) (qb:Int) (qc:Int) (qd:Int) (qe:Int) (wh:Int) (wi:Bool) (jw:Bytes) (jx:Bool) (jy:Int) (jz:Int) (jA:Int) (jB:Int) (jC:Int) (az:Int) (bm:Int) (bn:Int) (bo:Int) (bp:Int) (bq:Int) (br:Int) (bs:Int) (cQ:Int) (dy:Bool) (cD:Bytes) (cE:Bool) (cF:Int) (cG:Int) (cH:Int) (cI:Int) (cJ:Int) (bL:Rows) (aO:Rows) (aP:Rows) (aE:Rows) (aF:Rows) (aT:Rows) (bY:Rows) (ba:Rows) (cK:Rows) (cL:Rows) (bb:Rows) (bc:Rows) (bd:Rows) (bf:Rows) (dx:Rows) (ih:St→aV) (k:Int) (cC:Rows):mD N ih (mC k nr h_2 nt nv nw nx ny nz nA dM dN dO cX cn bI cr cA cB cu bQ bR bU bS cv dP cx cy cz c_ da db dc dd b2 p8 p9 p_ qb qc qd qe wh wi jw jx jy jz jA jB jC az bm bn bo bp bq br bs cQ dy cD cE cF cG cH cI cJ bL aO aP aE aF aT cC bY ba cK cL bb bc bd bf dx)=mE Vm.bad ln nr h_2 nt nv nw nx ny nz nA dM dN dO cX cn bI cr cA cB cu bQ bR bU bS cv dP cx cy cz c_ da db dc dd az bm bn bo bp bq br bs cQ dy cD cE cF cG cH cI cJ bL aO aP aE aF aT bY ba cK cL bb bc bd bf dx (fun k cC=>ih (mC k nr h_2 nt nv nw nx ny nz nA dM dN dO cX cn bI cr cA cB cu bQ bR bU bS cv dP cx cy cz c_ da db dc dd b2 p8 p9 p_ qb qc qd qe wh wi jw jx jy jz jA jB jC az bm bn bo bp bq br bs cQ dy cD cE cF cG cH cI cJ bL aO aP aE aF aT cC bY ba cK cL bb bc bd bf dx)) k cC:=by kernel_rfl
theorem Zd (N:Nat) (nr:Rows) (h_2:Rows) (nt:Int) (nv:Int) (nw:Int) (nx:Int) (ny:Int) (nz:Int) (nA:Int) (dM:Rows) (dN:Rows) (dO:Int) (cX:Rows) (cn:Rows) (bI:Rows) (cr:Rows) (cA:Int) (cB:Bool) (cu:Rows) (bQ:Rows) (bR:Rows) (bU:Bytes) (bS:Rows) (cv:Rows) (dP:Bool) (cx:Rows) (cy:Rows) (cz:Rows) (c_:Int) (da:Int) (db:Int) (dc:Int) (dd:Int) (b2:Int) (p8:Int) (p9:Int) (p_:Int) (qb:Int) (qc:Int) (qd:Int) (qe:Int) (wh:Int) (wi:Bool) (jw:Bytes) (jx:Bool) (jy:Int) (jz:Int) (jA:Int) (jB:Int) (jC:Int) (az:Int) (bm:Int) (bn:Int) (bo:Int) (bp:Int) (bq:Int) (br:Int) (bs:Int) (cQ:Int) (dy:Bool) (cD:Bytes) (cE:Bool) (cF:Int) (cG:Int) (cH:Int) (cI:Int) (cJ:Int) (bL:Rows) (aO:Rows) (aP:Rows) (aE:Rows) (aF:Rows) (aT:Rows) (bY:Rows) (ba:Rows) (cK:Rows) (cL:Rows) (bb:Rows) (bc:Rows) (bd:Rows) (bf:Rows) (dx:Rows) (m_:Nat):(fun k cC=>aw (mD N) m_ (mC k nr h_2 nt nv nw nx ny nz nA dM dN dO cX cn bI cr cA cB cu bQ bR bU bS cv dP cx cy cz c_ da db dc dd b2 p8 p9 p_ qb qc qd qe wh wi jw jx jy jz jA jB jC az bm bn bo bp bq br bs cQ dy cD cE cF cG cH cI cJ bL aO aP aE aF aT cC bY ba cK cL bb bc bd bf dx))=gu Vm.bad ln N nr h_2 nt nv nw nx ny nz nA dM dN dO cX cn bI cr cA cB cu bQ bR bU bS cv dP cx cy cz c_ da db dc dd az bm bn bo bp bq br bs cQ dy cD cE cF cG cH cI cJ bL aO aP aE aF aT bY ba cK cL bb bc bd bf dx m_:=by
 induction m_ with
 | zero=>rfl
 | succ m_ ih=>
  funext k cC
  show mD N (aw (mD N) m_) (mC k nr h_2 nt nv nw nx ny nz nA dM dN dO cX cn bI cr cA cB cu bQ bR bU bS cv dP cx cy cz c_ da db dc dd b2 p8 p9 p_ qb qc qd qe wh wi jw jx jy jz jA jB jC az bm bn bo bp bq br bs cQ dy cD cE cF cG cH cI cJ bL aO aP aE aF aT cC bY ba cK cL bb bc bd bf dx)=_
  rw[Zc N nr h_2 nt nv nw nx ny nz nA dM dN dO cX cn bI cr cA cB cu bQ bR bU bS cv dP cx cy cz c_ da db dc dd b2 p8 p9 p_ qb qc qd qe wh wi jw jx jy jz jA jB jC az bm bn bo bp bq br bs cQ dy cD cE cF cG cH cI cJ bL aO aP aE aF aT bY ba cK cL bb bc bd bf dx]
  rw[ih]
  rfl
theorem ac_ (N:Nat) (h:aB):bg Tryz.prog Ae Af N Tryz.f14 uw (h.enc++([]))=Ag Vm.bad ln N h:=by
 have cm:bg Tryz.prog Ae Af N Tryz.f14 uw (h.enc++([]))=Ah Vm.bad ln (fun nr h_2 nt nv nw nx ny nz nA dM dN dO cX cn bI cr cA cB cu bQ bR bU bS cv dP cx cy cz c_ da db dc dd az bm bn bo bp bq br bs cQ dy cD cE cF cG cH cI cJ bL aO aP aE aF aT bY ba cK cL bb bc bd bf dx k cC=>aw (mD N) N (mC k nr h_2 nt nv nw nx ny nz nA dM dN dO cX cn bI cr cA cB cu bQ bR bU bS cv dP cx cy cz c_ da db dc dd 0 0 0 0 0 0 0 0 0 false [] false 0 0 0 0 0 az bm bn bo bp bq br bs cQ dy cD cE cF cG cH cI cJ bL aO aP aE aF aT cC bY ba cK cL bb bc bd bf dx)) h:=by kernel_rfl
 refine cm.trans ?_
 unfold Ag
 have e0:(fun nr h_2 nt nv nw nx ny nz nA dM dN dO cX cn bI cr cA cB cu bQ bR bU bS cv dP cx cy cz c_ da db dc dd az bm bn bo bp bq br bs cQ dy cD cE cF cG cH cI cJ bL aO aP aE aF aT bY ba cK cL bb bc bd bf dx k cC=>aw (mD N) N (mC k nr h_2 nt nv nw nx ny nz nA dM dN dO cX cn bI cr cA cB cu bQ bR bU bS cv dP cx cy cz c_ da db dc dd 0 0 0 0 0 0 0 0 0 false [] false 0 0 0 0 0 az bm bn bo bp bq br bs cQ dy cD cE cF cG cH cI cJ bL aO aP aE aF aT cC bY ba cK cL bb bc bd bf dx))=(fun nr h_2 nt nv nw nx ny nz nA dM dN dO cX cn bI cr cA cB cu bQ bR bU bS cv dP cx cy cz c_ da db dc dd az bm bn bo bp bq br bs cQ dy cD cE cF cG cH cI cJ bL aO aP aE aF aT bY ba cK cL bb bc bd bf dx=>gu Vm.bad ln N nr h_2 nt nv nw nx ny nz nA dM dN dO cX cn bI cr cA cB cu bQ bR bU bS cv dP cx cy cz c_ da db dc dd az bm bn bo bp bq br bs cQ dy cD cE cF cG cH cI cJ bL aO aP aE aF aT bY ba cK cL bb bc bd bf dx N):=by
  funext nr h_2 nt nv nw nx ny nz nA dM dN dO cX cn bI cr cA cB cu bQ bR bU bS cv dP cx cy cz c_ da db dc dd az bm bn bo bp bq br bs cQ dy cD cE cF cG cH cI cJ bL aO aP aE aF aT bY ba cK cL bb bc bd bf dx
  exact Zd N nr h_2 nt nv nw nx ny nz nA dM dN dO cX cn bI cr cA cB cu bQ bR bU bS cv dP cx cy cz c_ da db dc dd 0 0 0 0 0 0 0 0 0 false [] false 0 0 0 0 0 az bm bn bo bp bq br bs cQ dy cD cE cF cG cH cI cJ bL aO aP aE aF aT bY ba cK cL bb bc bd bf dx N
 exact congrArg (fun l_=>Ah Vm.bad ln l_ h) e0
theorem ada:Holds Tryz.prog 14 uw:=by
 refine aa (A:=Af) ac9 Tryz.func14 rfl (by kernel_rfl) (of_decide_eq_true (by kernel_rfl)) (of_decide_eq_true (by kernel_rfl)) ?_
 intro ds hw hok
 replace hw:WtL (aB.ct++([])) ds:=hw
 obtain⟨h,ds,rfl,h_h,hw⟩:=aB.aZ (r:=_) hw
 obtain rfl:=of_wt_nil hw
 obtain⟨N,hN⟩:=adb Vm.bad ln h h_h hok
 exact⟨N,((ac_ N h).trans hN).trans (by kernel_rfl)⟩
def Cd:Sum:= {ps:=[⟨[.sl [.str],.sl [.int .i64,.int .i64,.int .i64,.bool],.int .i64,.int .i64,.int .i64,.int .i64,.int .i64,.int .i64,.int .i64,.sl [.int .i64],.sl [.int .i64,.int .i64,.sl [.int .i64]],.int .i64,.sl [.int .i64,.int .i64,.int .i64,.int .i64,.int .i64,.int .i64,.int .i64,.int .i64,.int .i64,.int .i64,.int .i64,.int .i64,.int .i64,.int .i64,.int .i64,.int .i64,.int .i64,.int .i64,.int .i64,.int .i64,.int .i64,.int .i64,.int .i64,.int .i64,.int .i64,.str,.int .i64,.int .i64,.bool,.int .i64],.sl [.int .i64,.int .i64,.int .i64,.sl [.int .i64]],.sl [.int .i64,.int .i64,.int .i64,.int .i64,.bool,.bool],.sl [.bool],.int .i64,.bool,.sl [.int .i64],.sl [.int .i64,.int .i64,.int .i64,.int .i64,.int .i64,.int .i64,.int .i64,.int .i64,.int .i64],.sl [.int .i64,.int .i64,.int .i64,.int .i64,.int .i64,.int .i64,.int .i64],.str,.sl [.int .i64],.sl [.int .i64,.int .i64,.int .i64,.int .i64,.int .i64,.int .i64,.str,.bool],.bool,.sl [.str],.sl [.int .i64],.sl [.int .i64],.int .i64,.int .i64,.int .i64,.int .i64,.int .i64],true⟩],rs:=[⟨[.imm .bool],false⟩],fn:=fun ds=>(fitL (aB.ct++([])) ds,[.bool true])}
def Ce:Ctx:=[(5,KO),(7,KP),(10,KR),(11,Gb),(14,uw),(15,uv),(16,Gc)]
theorem MJ:ai Tryz.prog Ce:=ab ajI (ab ajJ (ab ajK (ab acG (ab ada (ab ac7 (ab acK aq))))))
def Cf:List (Nat×dv):=[]
theorem ML (N:Nat) (aH:aB):bg Tryz.prog Ce Cf N Tryz.f4 Cd (aH.enc++([]))=tA Vm.bad (fun r0=>((true,[.bool r0]):aV)) aH:=by kernel_rfl
theorem MM:Holds Tryz.prog 4 Cd:=by
 refine aa (A:=Cf) MJ Tryz.func4 rfl (by kernel_rfl) (of_decide_eq_true (by kernel_rfl)) (of_decide_eq_true (by kernel_rfl)) ?_
 intro ds hw hok
 replace hw:WtL (aB.ct++([])) ds:=hw
 obtain⟨aH,ds,rfl,aq2,hw⟩:=aB.aZ (r:=_) hw
 obtain rfl:=of_wt_nil hw
 exact⟨0,((ML 0 aH).trans (MN Vm.bad _ aH aq2 hok)).trans (by kernel_rfl)⟩
end
end Go.Proofs.YthpmalpdnnbkgaaGreat.Pl
