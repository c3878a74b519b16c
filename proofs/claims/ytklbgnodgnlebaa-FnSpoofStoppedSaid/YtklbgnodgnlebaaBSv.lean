/- The contracts of functions of the program: each computes what its plain form says. Conditions: none. -/
import Derived.Test.YtklbgnodgnlebaaPSv
import Derived.Test.YtklbgnodgnlebaaRows
import Derived.Test.YtklbgnodgnlebaaBSy
import Derived.Test.YtklbgnodgnlebaaBDm
set_option linter.unusedVariables false
set_option linter.unusedSimpArgs false
set_option maxRecDepth 100000
namespace Go.Proofs.Ytklbgnodgnlebaa.Pl
open Vm
noncomputable section

def laws_FnExactSwitchPacket_s : Sum := { ps := [⟨[.sl [.int .i64, .sl [.int .i64], .int .i64, .bool]], false⟩, ⟨[.int .i64], false⟩, ⟨[.int .i64, .int .i64, .int .i64, .int .i64, .int .i64, .int .i64, .int .i64, .int .i64, .int .i64, .int .i64, .int .i64, .int .i64, .int .i64, .int .i64, .int .i64, .str], true⟩], rs := [⟨[.imm .bool], false⟩], fn := fun ds => (fitL ((.sl [.int .i64, .sl [.int .i64], .int .i64, .bool]) :: ((.int .i64) :: (SPacket.ct ++ ([])))) ds, [.bool true]) }
def laws_FnExactSwitchPacket_G : Ctx := [(10, laws_szPortS_s), (12, laws_toPortS_s), (14, laws_eqPortS_s), (15, laws_szPacket_s), (17, laws_toPacket_s), (21, impl_SwitchPacket_s), (24, spec_SwitchPacket_s), (28, laws_eqIntS_s), (29, laws_markPortS_s), (30, laws_markIntS_s), (31, laws_heldIntS_s)]
theorem laws_FnExactSwitchPacket_x : CtxHolds Try.prog laws_FnExactSwitchPacket_G := ctx_cons laws_szPortS_h (ctx_cons laws_toPortS_h (ctx_cons laws_eqPortS_h (ctx_cons laws_szPacket_h (ctx_cons laws_toPacket_h (ctx_cons impl_SwitchPacket_h (ctx_cons spec_SwitchPacket_h (ctx_cons laws_eqIntS_h (ctx_cons laws_markPortS_h (ctx_cons laws_markIntS_h (ctx_cons laws_heldIntS_h ctx_nil))))))))))
def laws_FnExactSwitchPacket_A : List (Nat × Ann) := []
theorem laws_FnExactSwitchPacket_r (N : Nat) (aList : Rows) (aFrom : Int) (aP : SPacket) : runF Try.prog laws_FnExactSwitchPacket_G laws_FnExactSwitchPacket_A N Try.f8 laws_FnExactSwitchPacket_s (.sl aList :: (.int aFrom :: (aP.enc ++ ([])))) = laws_FnExactSwitchPacket_t Vm.bad (fun r0 => ((true, [.bool r0]) : Res)) aList aFrom aP := by kernel_rfl
theorem laws_FnExactSwitchPacket_h : Holds Try.prog 8 laws_FnExactSwitchPacket_s := by
  refine holds_of_run (A := laws_FnExactSwitchPacket_A) laws_FnExactSwitchPacket_x Try.func8 rfl (by kernel_rfl) (of_decide_eq_true (by kernel_rfl)) (of_decide_eq_true (by kernel_rfl)) ?_
  intro ds hw hok
  replace hw : WtL ((.sl [.int .i64, .sl [.int .i64], .int .i64, .bool]) :: ((.int .i64) :: (SPacket.ct ++ ([])))) ds := hw
  obtain ⟨aList, ds, rfl, h_aList, hw⟩ := of_wt_sl hw
  obtain ⟨aFrom, ds, rfl, h_aFrom, hw⟩ := of_wt_int hw
  obtain ⟨aP, ds, rfl, h_aP, hw⟩ := SPacket.of_wt (r := _) hw
  obtain rfl := of_wt_nil hw
  exact ⟨0, ((laws_FnExactSwitchPacket_r 0 aList aFrom aP).trans (laws_FnExactSwitchPacket_c Vm.bad _ aList aFrom aP h_aList h_aFrom h_aP hok)).trans (by kernel_rfl)⟩

def spec_DeliverPorts_s : Sum := { ps := [⟨[.sl [.int .i64, .sl [.int .i64], .int .i64, .bool]], false⟩, ⟨[.int .i64], false⟩, ⟨[.sl [.int .i64, .int .i64, .int .i64, .int .i64, .int .i64, .int .i64, .int .i64, .int .i64, .int .i64, .int .i64, .int .i64, .int .i64, .int .i64, .int .i64, .int .i64, .str]], false⟩], rs := [⟨[.deep 52 [.sl [.int .i64, .int .i64, .int .i64, .int .i64, .int .i64, .int .i64, .int .i64, .int .i64, .int .i64, .int .i64, .int .i64, .int .i64, .int .i64, .int .i64, .int .i64, .str]] [37]], false⟩], fn := fun ds => (DeliverPorts_ok (rR ds 0) (rI ds 1) (rR ds 2), [.sl (DeliverPorts (rR ds 0) (rI ds 1) (rR ds 2))]) }
def spec_DeliverPorts_G : Ctx := [(1125899906842638, annS), (1125899906842641, annS), (1125899906842672, annS), (11, spec_PortsOk_s), (16, spec_EntryVlan_s), (24, spec_SwitchPacket_s), (26, spec_LeavePacket_s)]
theorem spec_DeliverPorts_x : CtxHolds Try.prog spec_DeliverPorts_G := ctx_cons ann_h (ctx_cons ann_h (ctx_cons ann_h (ctx_cons spec_PortsOk_h (ctx_cons spec_EntryVlan_h (ctx_cons spec_SwitchPacket_h (ctx_cons spec_LeavePacket_h ctx_nil))))))
def spec_DeliverPorts_A : List (Nat × Ann) := [(5, { slots := [(0, .asis), (1, .asis), (2, .asis), (7, .asis), (8, .asis)], boxes := [] }), (9, { slots := [(0, .asis), (1, .asis), (2, .asis), (7, .asis), (8, .asis), (9, .asis), (10, .asis)], boxes := [] })]
def spec_DeliverPorts_K : Rows → Res := (fun r0 => ((true, [.sl r0]) : Res))
def spec_DeliverPorts_m0 (list_ : Rows) (from_ : Int) (packets : Rows) (i : Int) (out_ : Rows) : St := { n := 70, sl := [(0, .sl [.int .i64, .sl [.int .i64], .int .i64, .bool] list_), (1, .int .i64 from_), (2, .sl [.int .i64, .int .i64, .int .i64, .int .i64, .int .i64, .int .i64, .int .i64, .int .i64, .int .i64, .int .i64, .int .i64, .int .i64, .int .i64, .int .i64, .int .i64, .str] packets), (7, .own 640448), (8, .int .i64 i)], hp := [(640448, .deep 52 [.sl [.int .i64, .int .i64, .int .i64, .int .i64, .int .i64, .int .i64, .int .i64, .int .i64, .int .i64, .int .i64, .int .i64, .int .i64, .int .i64, .int .i64, .int .i64, .str]] [37] out_ none)], ok := true, ls := [], lm := [] }
def spec_DeliverPorts_m1 (list_ : Rows) (from_ : Int) (packets : Rows) (i : Int) (k : Int) (out_1 : Rows) (ports : Rows) : St := { n := 70, sl := [(0, .sl [.int .i64, .sl [.int .i64], .int .i64, .bool] list_), (1, .int .i64 from_), (2, .sl [.int .i64, .int .i64, .int .i64, .int .i64, .int .i64, .int .i64, .int .i64, .int .i64, .int .i64, .int .i64, .int .i64, .int .i64, .int .i64, .int .i64, .int .i64, .str] packets), (7, .own 640448), (8, .int .i64 i), (9, .own 640576), (10, .int .i64 k)], hp := [(640448, .deep 52 [.sl [.int .i64, .int .i64, .int .i64, .int .i64, .int .i64, .int .i64, .int .i64, .int .i64, .int .i64, .int .i64, .int .i64, .int .i64, .int .i64, .int .i64, .int .i64, .str]] [37] out_1 none), (640576, .row 3 [.int .i64] ports false true)], ok := true, ls := [], lm := [] }
noncomputable def spec_DeliverPorts_B1 (N : Nat) (o0 : St → Res) : (St → Res) → St → Res := loopB Try.prog spec_DeliverPorts_G spec_DeliverPorts_A N Try.f33 spec_DeliverPorts_s [true, true, true, false, true, false, false, true, false, false, true, true, false] [o0]
noncomputable def spec_DeliverPorts_B0 (N : Nat) : (St → Res) → St → Res := loopB Try.prog spec_DeliverPorts_G spec_DeliverPorts_A N Try.f33 spec_DeliverPorts_s [true, true, true, false, true, false] []
theorem spec_DeliverPorts_b1 (N : Nat) (o0 : St → Res) (list_ : Rows) (from_ : Int) (packets : Rows) (i : Int) (ports : Rows) (ih : St → Res) (k : Int) (out_1 : Rows) : spec_DeliverPorts_B1 N o0 ih (spec_DeliverPorts_m1 list_ from_ packets i k out_1 ports) = spec_DeliverPorts_l1 Vm.bad spec_DeliverPorts_K (fun i out_ => o0 (spec_DeliverPorts_m0 list_ from_ packets i out_)) list_ from_ packets i ports (fun k out_1 => ih (spec_DeliverPorts_m1 list_ from_ packets i k out_1 ports)) k out_1 := by kernel_rfl
theorem spec_DeliverPorts_n1 (N : Nat) (o0 : St → Res) (list_ : Rows) (from_ : Int) (packets : Rows) (i : Int) (ports : Rows) (m_ : Nat) : (fun k out_1 => loopN (spec_DeliverPorts_B1 N o0) m_ (spec_DeliverPorts_m1 list_ from_ packets i k out_1 ports)) = spec_DeliverPorts_L1 Vm.bad spec_DeliverPorts_K N (fun i out_ => o0 (spec_DeliverPorts_m0 list_ from_ packets i out_)) list_ from_ packets i ports m_ := by
  induction m_ with
  | zero => rfl
  | succ m_ ih =>
    funext k out_1
    show spec_DeliverPorts_B1 N o0 (loopN (spec_DeliverPorts_B1 N o0) m_) (spec_DeliverPorts_m1 list_ from_ packets i k out_1 ports) = _
    rw [spec_DeliverPorts_b1 N o0 list_ from_ packets i ports]
    rw [ih]
    rfl
theorem spec_DeliverPorts_b0 (N : Nat) (list_ : Rows) (from_ : Int) (packets : Rows) (ih : St → Res) (i : Int) (out_ : Rows) : spec_DeliverPorts_B0 N ih (spec_DeliverPorts_m0 list_ from_ packets i out_) = spec_DeliverPorts_l0 Vm.bad spec_DeliverPorts_K (fun i ports k out_1 => loopN (spec_DeliverPorts_B1 N ih) N (spec_DeliverPorts_m1 list_ from_ packets i k out_1 ports)) list_ from_ packets (fun i out_ => ih (spec_DeliverPorts_m0 list_ from_ packets i out_)) i out_ := by kernel_rfl
theorem spec_DeliverPorts_n0 (N : Nat) (list_ : Rows) (from_ : Int) (packets : Rows) (m_ : Nat) : (fun i out_ => loopN (spec_DeliverPorts_B0 N) m_ (spec_DeliverPorts_m0 list_ from_ packets i out_)) = spec_DeliverPorts_L0 Vm.bad spec_DeliverPorts_K N list_ from_ packets m_ := by
  induction m_ with
  | zero => rfl
  | succ m_ ih =>
    funext i out_
    show spec_DeliverPorts_B0 N (loopN (spec_DeliverPorts_B0 N) m_) (spec_DeliverPorts_m0 list_ from_ packets i out_) = _
    rw [spec_DeliverPorts_b0 N list_ from_ packets]
    have e1 := funext fun i => funext fun ports => spec_DeliverPorts_n1 N (loopN (spec_DeliverPorts_B0 N) m_) list_ from_ packets i ports N
    rw [e1]
    rw [ih]
    rfl
theorem spec_DeliverPorts_r (N : Nat) (list_ : Rows) (from_ : Int) (packets : Rows) : runF Try.prog spec_DeliverPorts_G spec_DeliverPorts_A N Try.f33 spec_DeliverPorts_s (.sl list_ :: (.int from_ :: (.sl packets :: ([])))) = spec_DeliverPorts_f Vm.bad spec_DeliverPorts_K N list_ from_ packets := by
  have run_ : runF Try.prog spec_DeliverPorts_G spec_DeliverPorts_A N Try.f33 spec_DeliverPorts_s (.sl list_ :: (.int from_ :: (.sl packets :: ([])))) = spec_DeliverPorts_t Vm.bad spec_DeliverPorts_K (fun i out_ => loopN (spec_DeliverPorts_B0 N) N (spec_DeliverPorts_m0 list_ from_ packets i out_)) list_ from_ packets := by kernel_rfl
  refine run_.trans ?_
  unfold spec_DeliverPorts_f
  have e0 : (fun i out_ => loopN (spec_DeliverPorts_B0 N) N (spec_DeliverPorts_m0 list_ from_ packets i out_)) = (spec_DeliverPorts_L0 Vm.bad spec_DeliverPorts_K N list_ from_ packets N) := by
    exact spec_DeliverPorts_n0 N list_ from_ packets N
  exact congrArg (fun l_ => spec_DeliverPorts_t Vm.bad spec_DeliverPorts_K l_ list_ from_ packets) e0
theorem spec_DeliverPorts_h : Holds Try.prog 33 spec_DeliverPorts_s := by
  refine holds_of_run (A := spec_DeliverPorts_A) spec_DeliverPorts_x Try.func33 rfl (by kernel_rfl) (of_decide_eq_true (by kernel_rfl)) (of_decide_eq_true (by kernel_rfl)) ?_
  intro ds hw hok
  replace hw : WtL ((.sl [.int .i64, .sl [.int .i64], .int .i64, .bool]) :: ((.int .i64) :: ((.sl [.int .i64, .int .i64, .int .i64, .int .i64, .int .i64, .int .i64, .int .i64, .int .i64, .int .i64, .int .i64, .int .i64, .int .i64, .int .i64, .int .i64, .int .i64, .str]) :: ([])))) ds := hw
  obtain ⟨list_, ds, rfl, h_list_, hw⟩ := of_wt_sl hw
  obtain ⟨from_, ds, rfl, h_from_, hw⟩ := of_wt_int hw
  obtain ⟨packets, ds, rfl, h_packets, hw⟩ := of_wt_sl hw
  obtain rfl := of_wt_nil hw
  obtain ⟨N, hN⟩ := spec_DeliverPorts_c Vm.bad spec_DeliverPorts_K list_ from_ packets h_list_ h_from_ h_packets hok
  exact ⟨N, ((spec_DeliverPorts_r N list_ from_ packets).trans hN).trans (by kernel_rfl)⟩

def impl_DeliverPorts_s : Sum := { ps := [⟨[.sl [.int .i64, .sl [.int .i64], .int .i64, .bool]], false⟩, ⟨[.int .i64], false⟩, ⟨[.sl [.int .i64, .int .i64, .int .i64, .int .i64, .int .i64, .int .i64, .int .i64, .int .i64, .int .i64, .int .i64, .int .i64, .int .i64, .int .i64, .int .i64, .int .i64, .str]], false⟩], rs := [⟨[.deep 52 [.sl [.int .i64, .int .i64, .int .i64, .int .i64, .int .i64, .int .i64, .int .i64, .int .i64, .int .i64, .int .i64, .int .i64, .int .i64, .int .i64, .int .i64, .int .i64, .str]] [37]], false⟩], fn := fun ds => (DeliverPorts_ok (rR ds 0) (rI ds 1) (rR ds 2), [.sl (DeliverPorts (rR ds 0) (rI ds 1) (rR ds 2))]) }
def impl_DeliverPorts_G : Ctx := [(1125899906842642, annS), (1125899906842667, annS), (13, impl_PortsOk_s), (18, impl_EntryVlan_s), (21, impl_SwitchPacket_s), (23, impl_LeavePacket_s)]
theorem impl_DeliverPorts_x : CtxHolds Try.prog impl_DeliverPorts_G := ctx_cons ann_h (ctx_cons ann_h (ctx_cons impl_PortsOk_h (ctx_cons impl_EntryVlan_h (ctx_cons impl_SwitchPacket_h (ctx_cons impl_LeavePacket_h ctx_nil)))))
def impl_DeliverPorts_A : List (Nat × Ann) := [(5, { slots := [(0, .asis), (1, .asis), (7, .asis), (19, .asis), (20, .asis), (21, .asis)], boxes := [] }), (9, { slots := [(0, .asis), (1, .asis), (7, .asis), (9, .asis), (10, .asis), (19, .asis), (20, .asis), (21, .asis), (32, .asis), (33, .asis), (34, .asis)], boxes := [(576, [])] })]
def impl_DeliverPorts_K : Rows → Res := (fun r0 => ((true, [.sl r0]) : Res))
def impl_DeliverPorts_m0 (list_ : Rows) (from_ : Int) (packets : Rows) (x_1 : Int) (x_2 : Int) (out_ : Rows) : St := { n := 55, sl := [(0, .sl [.int .i64, .sl [.int .i64], .int .i64, .bool] list_), (1, .int .i64 from_), (7, .own 640448), (19, .sl [.int .i64, .int .i64, .int .i64, .int .i64, .int .i64, .int .i64, .int .i64, .int .i64, .int .i64, .int .i64, .int .i64, .int .i64, .int .i64, .int .i64, .int .i64, .str] packets), (20, .int .i64 x_1), (21, .int .i64 x_2)], hp := [(640448, .deep 52 [.sl [.int .i64, .int .i64, .int .i64, .int .i64, .int .i64, .int .i64, .int .i64, .int .i64, .int .i64, .int .i64, .int .i64, .int .i64, .int .i64, .int .i64, .int .i64, .str]] [37] out_ none)], ok := true, ls := [], lm := [] }
def impl_DeliverPorts_m1 (list_ : Rows) (from_ : Int) (vlan : Int) (packets : Rows) (x_1 : Int) (x_2 : Int) (x_6 : Int) (x_7 : Int) (p : Int) (p_1 : Int) (p_2 : Int) (p_3 : Int) (p_4 : Int) (p_5 : Int) (p_6 : Int) (p_7 : Int) (p_8 : Int) (p_9 : Int) (p_10 : Int) (p_11 : Int) (p_12 : Int) (p_13 : Int) (p_14 : Int) (p_15 : Bytes) (out_1 : Rows) (x_8 : Rows) : St := { n := 55, sl := [(0, .sl [.int .i64, .sl [.int .i64], .int .i64, .bool] list_), (1, .int .i64 from_), (7, .own 640448), (9, .ptr 576 0), (10, .int .i64 vlan), (19, .sl [.int .i64, .int .i64, .int .i64, .int .i64, .int .i64, .int .i64, .int .i64, .int .i64, .int .i64, .int .i64, .int .i64, .int .i64, .int .i64, .int .i64, .int .i64, .str] packets), (20, .int .i64 x_1), (21, .int .i64 x_2), (32, .own 642048), (33, .int .i64 x_6), (34, .int .i64 x_7)], hp := [(576, .box 37 [.int .i64 p, .int .i64 p_1, .int .i64 p_2, .int .i64 p_3, .int .i64 p_4, .int .i64 p_5, .int .i64 p_6, .int .i64 p_7, .int .i64 p_8, .int .i64 p_9, .int .i64 p_10, .int .i64 p_11, .int .i64 p_12, .int .i64 p_13, .int .i64 p_14, .str p_15]), (640448, .deep 52 [.sl [.int .i64, .int .i64, .int .i64, .int .i64, .int .i64, .int .i64, .int .i64, .int .i64, .int .i64, .int .i64, .int .i64, .int .i64, .int .i64, .int .i64, .int .i64, .str]] [37] out_1 none), (642048, .row 3 [.int .i64] x_8 false true)], ok := true, ls := [], lm := [] }
noncomputable def impl_DeliverPorts_B1 (N : Nat) (o0 : St → Res) : (St → Res) → St → Res := loopB Try.prog impl_DeliverPorts_G impl_DeliverPorts_A N Try.f25 impl_DeliverPorts_s [true, true, true, false, true, false, false, true, true, false, false, true, true, true, false] [o0]
noncomputable def impl_DeliverPorts_B0 (N : Nat) : (St → Res) → St → Res := loopB Try.prog impl_DeliverPorts_G impl_DeliverPorts_A N Try.f25 impl_DeliverPorts_s [true, true, true, false, true, false] []
theorem impl_DeliverPorts_b1 (N : Nat) (o0 : St → Res) (list_ : Rows) (from_ : Int) (vlan : Int) (packets : Rows) (x_1 : Int) (x_2 : Int) (x_6 : Int) (p : Int) (p_1 : Int) (p_2 : Int) (p_3 : Int) (p_4 : Int) (p_5 : Int) (p_6 : Int) (p_7 : Int) (p_8 : Int) (p_9 : Int) (p_10 : Int) (p_11 : Int) (p_12 : Int) (p_13 : Int) (p_14 : Int) (p_15 : Bytes) (x_8 : Rows) (ih : St → Res) (x_7 : Int) (out_1 : Rows) : impl_DeliverPorts_B1 N o0 ih (impl_DeliverPorts_m1 list_ from_ vlan packets x_1 x_2 x_6 x_7 p p_1 p_2 p_3 p_4 p_5 p_6 p_7 p_8 p_9 p_10 p_11 p_12 p_13 p_14 p_15 out_1 x_8) = impl_DeliverPorts_l1 Vm.bad impl_DeliverPorts_K (fun x_2 out_ => o0 (impl_DeliverPorts_m0 list_ from_ packets x_1 x_2 out_)) list_ vlan x_2 x_6 p p_1 p_2 p_3 p_4 p_5 p_6 p_7 p_8 p_9 p_10 p_11 p_12 p_13 p_14 p_15 x_8 (fun x_7 out_1 => ih (impl_DeliverPorts_m1 list_ from_ vlan packets x_1 x_2 x_6 x_7 p p_1 p_2 p_3 p_4 p_5 p_6 p_7 p_8 p_9 p_10 p_11 p_12 p_13 p_14 p_15 out_1 x_8)) x_7 out_1 := by kernel_rfl
theorem impl_DeliverPorts_n1 (N : Nat) (o0 : St → Res) (list_ : Rows) (from_ : Int) (vlan : Int) (packets : Rows) (x_1 : Int) (x_2 : Int) (x_6 : Int) (p : Int) (p_1 : Int) (p_2 : Int) (p_3 : Int) (p_4 : Int) (p_5 : Int) (p_6 : Int) (p_7 : Int) (p_8 : Int) (p_9 : Int) (p_10 : Int) (p_11 : Int) (p_12 : Int) (p_13 : Int) (p_14 : Int) (p_15 : Bytes) (x_8 : Rows) (m_ : Nat) : (fun x_7 out_1 => loopN (impl_DeliverPorts_B1 N o0) m_ (impl_DeliverPorts_m1 list_ from_ vlan packets x_1 x_2 x_6 x_7 p p_1 p_2 p_3 p_4 p_5 p_6 p_7 p_8 p_9 p_10 p_11 p_12 p_13 p_14 p_15 out_1 x_8)) = impl_DeliverPorts_L1 Vm.bad impl_DeliverPorts_K N (fun x_2 out_ => o0 (impl_DeliverPorts_m0 list_ from_ packets x_1 x_2 out_)) list_ vlan x_2 x_6 p p_1 p_2 p_3 p_4 p_5 p_6 p_7 p_8 p_9 p_10 p_11 p_12 p_13 p_14 p_15 x_8 m_ := by
  induction m_ with
  | zero => rfl
  | succ m_ ih =>
    funext x_7 out_1
    show impl_DeliverPorts_B1 N o0 (loopN (impl_DeliverPorts_B1 N o0) m_) (impl_DeliverPorts_m1 list_ from_ vlan packets x_1 x_2 x_6 x_7 p p_1 p_2 p_3 p_4 p_5 p_6 p_7 p_8 p_9 p_10 p_11 p_12 p_13 p_14 p_15 out_1 x_8) = _
    rw [impl_DeliverPorts_b1 N o0 list_ from_ vlan packets x_1 x_2 x_6 p p_1 p_2 p_3 p_4 p_5 p_6 p_7 p_8 p_9 p_10 p_11 p_12 p_13 p_14 p_15 x_8]
    rw [ih]
    rfl
theorem impl_DeliverPorts_b0 (N : Nat) (list_ : Rows) (from_ : Int) (packets : Rows) (x_1 : Int) (ih : St → Res) (x_2 : Int) (out_ : Rows) : impl_DeliverPorts_B0 N ih (impl_DeliverPorts_m0 list_ from_ packets x_1 x_2 out_) = impl_DeliverPorts_l0 Vm.bad impl_DeliverPorts_K (fun vlan x_2 x_6 p p_1 p_2 p_3 p_4 p_5 p_6 p_7 p_8 p_9 p_10 p_11 p_12 p_13 p_14 p_15 x_8 x_7 out_1 => loopN (impl_DeliverPorts_B1 N ih) N (impl_DeliverPorts_m1 list_ from_ vlan packets x_1 x_2 x_6 x_7 p p_1 p_2 p_3 p_4 p_5 p_6 p_7 p_8 p_9 p_10 p_11 p_12 p_13 p_14 p_15 out_1 x_8)) list_ from_ packets x_1 (fun x_2 out_ => ih (impl_DeliverPorts_m0 list_ from_ packets x_1 x_2 out_)) x_2 out_ := by kernel_rfl
theorem impl_DeliverPorts_n0 (N : Nat) (list_ : Rows) (from_ : Int) (packets : Rows) (x_1 : Int) (m_ : Nat) : (fun x_2 out_ => loopN (impl_DeliverPorts_B0 N) m_ (impl_DeliverPorts_m0 list_ from_ packets x_1 x_2 out_)) = impl_DeliverPorts_L0 Vm.bad impl_DeliverPorts_K N list_ from_ packets x_1 m_ := by
  induction m_ with
  | zero => rfl
  | succ m_ ih =>
    funext x_2 out_
    show impl_DeliverPorts_B0 N (loopN (impl_DeliverPorts_B0 N) m_) (impl_DeliverPorts_m0 list_ from_ packets x_1 x_2 out_) = _
    rw [impl_DeliverPorts_b0 N list_ from_ packets x_1]
    have e1 := funext fun vlan => funext fun x_2 => funext fun x_6 => funext fun p => funext fun p_1 => funext fun p_2 => funext fun p_3 => funext fun p_4 => funext fun p_5 => funext fun p_6 => funext fun p_7 => funext fun p_8 => funext fun p_9 => funext fun p_10 => funext fun p_11 => funext fun p_12 => funext fun p_13 => funext fun p_14 => funext fun p_15 => funext fun x_8 => impl_DeliverPorts_n1 N (loopN (impl_DeliverPorts_B0 N) m_) list_ from_ vlan packets x_1 x_2 x_6 p p_1 p_2 p_3 p_4 p_5 p_6 p_7 p_8 p_9 p_10 p_11 p_12 p_13 p_14 p_15 x_8 N
    rw [e1]
    rw [ih]
    rfl
theorem impl_DeliverPorts_r (N : Nat) (list_ : Rows) (from_ : Int) (packets : Rows) : runF Try.prog impl_DeliverPorts_G impl_DeliverPorts_A N Try.f25 impl_DeliverPorts_s (.sl list_ :: (.int from_ :: (.sl packets :: ([])))) = impl_DeliverPorts_f Vm.bad impl_DeliverPorts_K N list_ from_ packets := by
  have run_ : runF Try.prog impl_DeliverPorts_G impl_DeliverPorts_A N Try.f25 impl_DeliverPorts_s (.sl list_ :: (.int from_ :: (.sl packets :: ([])))) = impl_DeliverPorts_t Vm.bad impl_DeliverPorts_K (fun x_1 x_2 out_ => loopN (impl_DeliverPorts_B0 N) N (impl_DeliverPorts_m0 list_ from_ packets x_1 x_2 out_)) list_ from_ packets := by kernel_rfl
  refine run_.trans ?_
  unfold impl_DeliverPorts_f
  have e0 : (fun x_1 x_2 out_ => loopN (impl_DeliverPorts_B0 N) N (impl_DeliverPorts_m0 list_ from_ packets x_1 x_2 out_)) = (fun x_1 => impl_DeliverPorts_L0 Vm.bad impl_DeliverPorts_K N list_ from_ packets x_1 N) := by
    funext x_1
    exact impl_DeliverPorts_n0 N list_ from_ packets x_1 N
  exact congrArg (fun l_ => impl_DeliverPorts_t Vm.bad impl_DeliverPorts_K l_ list_ from_ packets) e0
theorem impl_DeliverPorts_h : Holds Try.prog 25 impl_DeliverPorts_s := by
  refine holds_of_run (A := impl_DeliverPorts_A) impl_DeliverPorts_x Try.func25 rfl (by kernel_rfl) (of_decide_eq_true (by kernel_rfl)) (of_decide_eq_true (by kernel_rfl)) ?_
  intro ds hw hok
  replace hw : WtL ((.sl [.int .i64, .sl [.int .i64], .int .i64, .bool]) :: ((.int .i64) :: ((.sl [.int .i64, .int .i64, .int .i64, .int .i64, .int .i64, .int .i64, .int .i64, .int .i64, .int .i64, .int .i64, .int .i64, .int .i64, .int .i64, .int .i64, .int .i64, .str]) :: ([])))) ds := hw
  obtain ⟨list_, ds, rfl, h_list_, hw⟩ := of_wt_sl hw
  obtain ⟨from_, ds, rfl, h_from_, hw⟩ := of_wt_int hw
  obtain ⟨packets, ds, rfl, h_packets, hw⟩ := of_wt_sl hw
  obtain rfl := of_wt_nil hw
  obtain ⟨N, hN⟩ := impl_DeliverPorts_c Vm.bad impl_DeliverPorts_K list_ from_ packets h_list_ h_from_ h_packets hok
  exact ⟨N, ((impl_DeliverPorts_r N list_ from_ packets).trans hN).trans (by kernel_rfl)⟩

def laws_FnExactDeliverPorts_s : Sum := { ps := [⟨[.sl [.int .i64, .sl [.int .i64], .int .i64, .bool]], false⟩, ⟨[.int .i64], false⟩, ⟨[.sl [.int .i64, .int .i64, .int .i64, .int .i64, .int .i64, .int .i64, .int .i64, .int .i64, .int .i64, .int .i64, .int .i64, .int .i64, .int .i64, .int .i64, .int .i64, .str]], false⟩], rs := [⟨[.imm .bool], false⟩], fn := fun ds => (fitL ((.sl [.int .i64, .sl [.int .i64], .int .i64, .bool]) :: ((.int .i64) :: ((.sl [.int .i64, .int .i64, .int .i64, .int .i64, .int .i64, .int .i64, .int .i64, .int .i64, .int .i64, .int .i64, .int .i64, .int .i64, .int .i64, .int .i64, .int .i64, .str]) :: ([])))) ds, [.bool true]) }
def laws_FnExactDeliverPorts_G : Ctx := [(10, laws_szPortS_s), (12, laws_toPortS_s), (14, laws_eqPortS_s), (25, impl_DeliverPorts_s), (29, laws_markPortS_s), (32, laws_szPacketS_s), (33, spec_DeliverPorts_s), (34, laws_toPacketS_s), (35, laws_eqPacketSS_s), (36, laws_eqPacketS_s), (37, laws_markPacketS_s), (38, laws_markPacketSS_s), (39, laws_heldPacketSS_s)]
theorem laws_FnExactDeliverPorts_x : CtxHolds Try.prog laws_FnExactDeliverPorts_G := ctx_cons laws_szPortS_h (ctx_cons laws_toPortS_h (ctx_cons laws_eqPortS_h (ctx_cons impl_DeliverPorts_h (ctx_cons laws_markPortS_h (ctx_cons laws_szPacketS_h (ctx_cons spec_DeliverPorts_h (ctx_cons laws_toPacketS_h (ctx_cons laws_eqPacketSS_h (ctx_cons laws_eqPacketS_h (ctx_cons laws_markPacketS_h (ctx_cons laws_markPacketSS_h (ctx_cons laws_heldPacketSS_h ctx_nil))))))))))))
def laws_FnExactDeliverPorts_A : List (Nat × Ann) := []
theorem laws_FnExactDeliverPorts_r (N : Nat) (aList : Rows) (aFrom : Int) (aPackets : Rows) : runF Try.prog laws_FnExactDeliverPorts_G laws_FnExactDeliverPorts_A N Try.f9 laws_FnExactDeliverPorts_s (.sl aList :: (.int aFrom :: (.sl aPackets :: ([])))) = laws_FnExactDeliverPorts_t Vm.bad (fun r0 => ((true, [.bool r0]) : Res)) aList aFrom aPackets := by kernel_rfl
theorem laws_FnExactDeliverPorts_h : Holds Try.prog 9 laws_FnExactDeliverPorts_s := by
  refine holds_of_run (A := laws_FnExactDeliverPorts_A) laws_FnExactDeliverPorts_x Try.func9 rfl (by kernel_rfl) (of_decide_eq_true (by kernel_rfl)) (of_decide_eq_true (by kernel_rfl)) ?_
  intro ds hw hok
  replace hw : WtL ((.sl [.int .i64, .sl [.int .i64], .int .i64, .bool]) :: ((.int .i64) :: ((.sl [.int .i64, .int .i64, .int .i64, .int .i64, .int .i64, .int .i64, .int .i64, .int .i64, .int .i64, .int .i64, .int .i64, .int .i64, .int .i64, .int .i64, .int .i64, .str]) :: ([])))) ds := hw
  obtain ⟨aList, ds, rfl, h_aList, hw⟩ := of_wt_sl hw
  obtain ⟨aFrom, ds, rfl, h_aFrom, hw⟩ := of_wt_int hw
  obtain ⟨aPackets, ds, rfl, h_aPackets, hw⟩ := of_wt_sl hw
  obtain rfl := of_wt_nil hw
  exact ⟨0, ((laws_FnExactDeliverPorts_r 0 aList aFrom aPackets).trans (laws_FnExactDeliverPorts_c Vm.bad _ aList aFrom aPackets h_aList h_aFrom h_aPackets hok)).trans (by kernel_rfl)⟩

end
end Go.Proofs.Ytklbgnodgnlebaa.Pl
