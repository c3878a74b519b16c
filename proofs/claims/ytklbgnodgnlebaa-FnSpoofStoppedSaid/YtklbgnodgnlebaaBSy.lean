/- The contracts of functions of the program: each computes what its plain form says. Conditions: none. -/
import Derived.Test.YtklbgnodgnlebaaPSy
import Derived.Test.YtklbgnodgnlebaaRows
import Derived.Test.YtklbgnodgnlebaaBSx
import Derived.Test.YtklbgnodgnlebaaBPo
set_option linter.unusedVariables false
set_option linter.unusedSimpArgs false
set_option maxRecDepth 100000
namespace Go.Proofs.Ytklbgnodgnlebaa.Pl
open Vm
noncomputable section

def impl_SwitchPacket_s : Sum := { ps := [⟨[.sl [.int .i64, .sl [.int .i64], .int .i64, .bool]], false⟩, ⟨[.int .i64], false⟩, ⟨[.int .i64, .int .i64, .int .i64, .int .i64, .int .i64, .int .i64, .int .i64, .int .i64, .int .i64, .int .i64, .int .i64, .int .i64, .int .i64, .int .i64, .int .i64, .str], true⟩], rs := [⟨[.own 3 [.int .i64]], false⟩], fn := fun ds => (true, [.sl (SwitchPacket (rR ds 0) (rI ds 1) (SPacket.decAt ds 2))]) }
def impl_SwitchPacket_G : Ctx := [(18, impl_EntryVlan_s), (48, impl_hasInt_s), (49, impl_portWith_s)]
theorem impl_SwitchPacket_x : CtxHolds Try.prog impl_SwitchPacket_G := ctx_cons impl_EntryVlan_h (ctx_cons impl_hasInt_h (ctx_cons impl_portWith_h ctx_nil))
def impl_SwitchPacket_A : List (Nat × Ann) := [(17, { slots := [(0, .asis), (1, .asis), (7, .asis), (11, .asis), (43, .asis), (44, .asis), (45, .asis)], boxes := [(320, [])] }), (11, { slots := [(0, .asis), (1, .asis), (7, .asis), (8, .own 3), (33, .asis), (34, .asis)], boxes := [(320, [])] })]
def impl_SwitchPacket_K : Rows → Res := (fun r0 => ((true, [.sl r0]) : Res))
def impl_SwitchPacket_m0 (list_ : Rows) (from_ : Int) (vlan : Int) (x : Int) (x_1 : Int) (p_1 : Int) (p_2 : Int) (p_3 : Int) (p_4 : Int) (p_5 : Int) (p_6 : Int) (p_7 : Int) (p_8 : Int) (p_9 : Int) (p_10 : Int) (p_11 : Int) (p_12 : Int) (p_13 : Int) (p_14 : Int) (p_15 : Int) (p_16 : Bytes) (out_ : Rows) (x_2 : Rows) : St := { n := 67, sl := [(0, .sl [.int .i64, .sl [.int .i64], .int .i64, .bool] list_), (1, .int .i64 from_), (7, .int .i64 vlan), (11, .own 640704), (43, .own 642752), (44, .int .i64 x), (45, .int .i64 x_1)], hp := [(320, .box 37 [.int .i64 p_1, .int .i64 p_2, .int .i64 p_3, .int .i64 p_4, .int .i64 p_5, .int .i64 p_6, .int .i64 p_7, .int .i64 p_8, .int .i64 p_9, .int .i64 p_10, .int .i64 p_11, .int .i64 p_12, .int .i64 p_13, .int .i64 p_14, .int .i64 p_15, .str p_16]), (640704, .row 3 [.int .i64] out_ false true), (642752, .row 3 [.int .i64] x_2 false true)], ok := true, ls := [], lm := [] }
def impl_SwitchPacket_m1 (list_ : Rows) (from_ : Int) (vlan_1 : Int) (x_3 : Int) (x_4 : Int) (p_17 : Int) (p_18 : Int) (p_19 : Int) (p_20 : Int) (p_21 : Int) (p_22 : Int) (p_23 : Int) (p_24 : Int) (p_25 : Int) (p_26 : Int) (p_27 : Int) (p_28 : Int) (p_29 : Int) (p_30 : Int) (p_31 : Int) (p_32 : Bytes) (to : Rows) : St := { n := 67, sl := [(0, .sl [.int .i64, .sl [.int .i64], .int .i64, .bool] list_), (1, .int .i64 from_), (7, .int .i64 vlan_1), (8, .own 640512), (33, .int .i64 x_3), (34, .int .i64 x_4)], hp := [(320, .box 37 [.int .i64 p_17, .int .i64 p_18, .int .i64 p_19, .int .i64 p_20, .int .i64 p_21, .int .i64 p_22, .int .i64 p_23, .int .i64 p_24, .int .i64 p_25, .int .i64 p_26, .int .i64 p_27, .int .i64 p_28, .int .i64 p_29, .int .i64 p_30, .int .i64 p_31, .str p_32]), (640512, .row 3 [.int .i64] to false true)], ok := true, ls := [], lm := [] }
noncomputable def impl_SwitchPacket_B1 (N : Nat) : (St → Res) → St → Res := loopB Try.prog impl_SwitchPacket_G impl_SwitchPacket_A N Try.f21 impl_SwitchPacket_s [true, true, true, true, false, true, true, true, true, false, true, true, false] []
noncomputable def impl_SwitchPacket_B0 (N : Nat) : (St → Res) → St → Res := loopB Try.prog impl_SwitchPacket_G impl_SwitchPacket_A N Try.f21 impl_SwitchPacket_s [true, true, true, true, true, true, false, true, false] []
theorem impl_SwitchPacket_b0 (N : Nat) (list_ : Rows) (from_ : Int) (vlan : Int) (x : Int) (p_1 : Int) (p_2 : Int) (p_3 : Int) (p_4 : Int) (p_5 : Int) (p_6 : Int) (p_7 : Int) (p_8 : Int) (p_9 : Int) (p_10 : Int) (p_11 : Int) (p_12 : Int) (p_13 : Int) (p_14 : Int) (p_15 : Int) (p_16 : Bytes) (x_2 : Rows) (ih : St → Res) (x_1 : Int) (out_ : Rows) : impl_SwitchPacket_B0 N ih (impl_SwitchPacket_m0 list_ from_ vlan x x_1 p_1 p_2 p_3 p_4 p_5 p_6 p_7 p_8 p_9 p_10 p_11 p_12 p_13 p_14 p_15 p_16 out_ x_2) = impl_SwitchPacket_l0 Vm.bad impl_SwitchPacket_K list_ from_ vlan x p_1 p_2 p_3 p_4 p_5 p_6 p_7 p_8 p_9 p_10 p_11 p_12 p_13 p_14 p_15 p_16 x_2 (fun x_1 out_ => ih (impl_SwitchPacket_m0 list_ from_ vlan x x_1 p_1 p_2 p_3 p_4 p_5 p_6 p_7 p_8 p_9 p_10 p_11 p_12 p_13 p_14 p_15 p_16 out_ x_2)) x_1 out_ := by kernel_rfl
theorem impl_SwitchPacket_n0 (N : Nat) (list_ : Rows) (from_ : Int) (vlan : Int) (x : Int) (p_1 : Int) (p_2 : Int) (p_3 : Int) (p_4 : Int) (p_5 : Int) (p_6 : Int) (p_7 : Int) (p_8 : Int) (p_9 : Int) (p_10 : Int) (p_11 : Int) (p_12 : Int) (p_13 : Int) (p_14 : Int) (p_15 : Int) (p_16 : Bytes) (x_2 : Rows) (m_ : Nat) : (fun x_1 out_ => loopN (impl_SwitchPacket_B0 N) m_ (impl_SwitchPacket_m0 list_ from_ vlan x x_1 p_1 p_2 p_3 p_4 p_5 p_6 p_7 p_8 p_9 p_10 p_11 p_12 p_13 p_14 p_15 p_16 out_ x_2)) = impl_SwitchPacket_L0 Vm.bad impl_SwitchPacket_K N list_ from_ vlan x p_1 p_2 p_3 p_4 p_5 p_6 p_7 p_8 p_9 p_10 p_11 p_12 p_13 p_14 p_15 p_16 x_2 m_ := by
  induction m_ with
  | zero => rfl
  | succ m_ ih =>
    funext x_1 out_
    show impl_SwitchPacket_B0 N (loopN (impl_SwitchPacket_B0 N) m_) (impl_SwitchPacket_m0 list_ from_ vlan x x_1 p_1 p_2 p_3 p_4 p_5 p_6 p_7 p_8 p_9 p_10 p_11 p_12 p_13 p_14 p_15 p_16 out_ x_2) = _
    rw [impl_SwitchPacket_b0 N list_ from_ vlan x p_1 p_2 p_3 p_4 p_5 p_6 p_7 p_8 p_9 p_10 p_11 p_12 p_13 p_14 p_15 p_16 x_2]
    rw [ih]
    rfl
theorem impl_SwitchPacket_b1 (N : Nat) (list_ : Rows) (from_ : Int) (vlan_1 : Int) (x_3 : Int) (p_17 : Int) (p_18 : Int) (p_19 : Int) (p_20 : Int) (p_21 : Int) (p_22 : Int) (p_23 : Int) (p_24 : Int) (p_25 : Int) (p_26 : Int) (p_27 : Int) (p_28 : Int) (p_29 : Int) (p_30 : Int) (p_31 : Int) (p_32 : Bytes) (ih : St → Res) (x_4 : Int) (to : Rows) : impl_SwitchPacket_B1 N ih (impl_SwitchPacket_m1 list_ from_ vlan_1 x_3 x_4 p_17 p_18 p_19 p_20 p_21 p_22 p_23 p_24 p_25 p_26 p_27 p_28 p_29 p_30 p_31 p_32 to) = impl_SwitchPacket_l1 Vm.bad impl_SwitchPacket_K (fun vlan x p_1 p_2 p_3 p_4 p_5 p_6 p_7 p_8 p_9 p_10 p_11 p_12 p_13 p_14 p_15 p_16 x_2 x_1 out_ => loopN (impl_SwitchPacket_B0 N) N (impl_SwitchPacket_m0 list_ from_ vlan x x_1 p_1 p_2 p_3 p_4 p_5 p_6 p_7 p_8 p_9 p_10 p_11 p_12 p_13 p_14 p_15 p_16 out_ x_2)) list_ from_ vlan_1 x_3 p_17 p_18 p_19 p_20 p_21 p_22 p_23 p_24 p_25 p_26 p_27 p_28 p_29 p_30 p_31 p_32 (fun x_4 to => ih (impl_SwitchPacket_m1 list_ from_ vlan_1 x_3 x_4 p_17 p_18 p_19 p_20 p_21 p_22 p_23 p_24 p_25 p_26 p_27 p_28 p_29 p_30 p_31 p_32 to)) x_4 to := by kernel_rfl
theorem impl_SwitchPacket_n1 (N : Nat) (list_ : Rows) (from_ : Int) (vlan_1 : Int) (x_3 : Int) (p_17 : Int) (p_18 : Int) (p_19 : Int) (p_20 : Int) (p_21 : Int) (p_22 : Int) (p_23 : Int) (p_24 : Int) (p_25 : Int) (p_26 : Int) (p_27 : Int) (p_28 : Int) (p_29 : Int) (p_30 : Int) (p_31 : Int) (p_32 : Bytes) (m_ : Nat) : (fun x_4 to => loopN (impl_SwitchPacket_B1 N) m_ (impl_SwitchPacket_m1 list_ from_ vlan_1 x_3 x_4 p_17 p_18 p_19 p_20 p_21 p_22 p_23 p_24 p_25 p_26 p_27 p_28 p_29 p_30 p_31 p_32 to)) = impl_SwitchPacket_L1 Vm.bad impl_SwitchPacket_K N list_ from_ vlan_1 x_3 p_17 p_18 p_19 p_20 p_21 p_22 p_23 p_24 p_25 p_26 p_27 p_28 p_29 p_30 p_31 p_32 m_ := by
  induction m_ with
  | zero => rfl
  | succ m_ ih =>
    funext x_4 to
    show impl_SwitchPacket_B1 N (loopN (impl_SwitchPacket_B1 N) m_) (impl_SwitchPacket_m1 list_ from_ vlan_1 x_3 x_4 p_17 p_18 p_19 p_20 p_21 p_22 p_23 p_24 p_25 p_26 p_27 p_28 p_29 p_30 p_31 p_32 to) = _
    rw [impl_SwitchPacket_b1 N list_ from_ vlan_1 x_3 p_17 p_18 p_19 p_20 p_21 p_22 p_23 p_24 p_25 p_26 p_27 p_28 p_29 p_30 p_31 p_32]
    have e0 := funext fun vlan => funext fun x => funext fun p_1 => funext fun p_2 => funext fun p_3 => funext fun p_4 => funext fun p_5 => funext fun p_6 => funext fun p_7 => funext fun p_8 => funext fun p_9 => funext fun p_10 => funext fun p_11 => funext fun p_12 => funext fun p_13 => funext fun p_14 => funext fun p_15 => funext fun p_16 => funext fun x_2 => impl_SwitchPacket_n0 N list_ from_ vlan x p_1 p_2 p_3 p_4 p_5 p_6 p_7 p_8 p_9 p_10 p_11 p_12 p_13 p_14 p_15 p_16 x_2 N
    rw [e0]
    rw [ih]
    rfl
theorem impl_SwitchPacket_r (N : Nat) (list_ : Rows) (from_ : Int) (p : SPacket) : runF Try.prog impl_SwitchPacket_G impl_SwitchPacket_A N Try.f21 impl_SwitchPacket_s (.sl list_ :: (.int from_ :: (p.enc ++ ([])))) = impl_SwitchPacket_f Vm.bad impl_SwitchPacket_K N list_ from_ p := by
  have run_ : runF Try.prog impl_SwitchPacket_G impl_SwitchPacket_A N Try.f21 impl_SwitchPacket_s (.sl list_ :: (.int from_ :: (p.enc ++ ([])))) = impl_SwitchPacket_t Vm.bad impl_SwitchPacket_K (fun vlan x p_1 p_2 p_3 p_4 p_5 p_6 p_7 p_8 p_9 p_10 p_11 p_12 p_13 p_14 p_15 p_16 x_2 x_1 out_ => loopN (impl_SwitchPacket_B0 N) N (impl_SwitchPacket_m0 list_ from_ vlan x x_1 p_1 p_2 p_3 p_4 p_5 p_6 p_7 p_8 p_9 p_10 p_11 p_12 p_13 p_14 p_15 p_16 out_ x_2)) (fun vlan_1 x_3 p_17 p_18 p_19 p_20 p_21 p_22 p_23 p_24 p_25 p_26 p_27 p_28 p_29 p_30 p_31 p_32 x_4 to => loopN (impl_SwitchPacket_B1 N) N (impl_SwitchPacket_m1 list_ from_ vlan_1 x_3 x_4 p_17 p_18 p_19 p_20 p_21 p_22 p_23 p_24 p_25 p_26 p_27 p_28 p_29 p_30 p_31 p_32 to)) list_ from_ p := by kernel_rfl
  refine run_.trans ?_
  unfold impl_SwitchPacket_f
  have e0 : (fun vlan x p_1 p_2 p_3 p_4 p_5 p_6 p_7 p_8 p_9 p_10 p_11 p_12 p_13 p_14 p_15 p_16 x_2 x_1 out_ => loopN (impl_SwitchPacket_B0 N) N (impl_SwitchPacket_m0 list_ from_ vlan x x_1 p_1 p_2 p_3 p_4 p_5 p_6 p_7 p_8 p_9 p_10 p_11 p_12 p_13 p_14 p_15 p_16 out_ x_2)) = (fun vlan x p_1 p_2 p_3 p_4 p_5 p_6 p_7 p_8 p_9 p_10 p_11 p_12 p_13 p_14 p_15 p_16 x_2 => impl_SwitchPacket_L0 Vm.bad impl_SwitchPacket_K N list_ from_ vlan x p_1 p_2 p_3 p_4 p_5 p_6 p_7 p_8 p_9 p_10 p_11 p_12 p_13 p_14 p_15 p_16 x_2 N) := by
    funext vlan x p_1 p_2 p_3 p_4 p_5 p_6 p_7 p_8 p_9 p_10 p_11 p_12 p_13 p_14 p_15 p_16 x_2
    exact impl_SwitchPacket_n0 N list_ from_ vlan x p_1 p_2 p_3 p_4 p_5 p_6 p_7 p_8 p_9 p_10 p_11 p_12 p_13 p_14 p_15 p_16 x_2 N
  have e1 : (fun vlan_1 x_3 p_17 p_18 p_19 p_20 p_21 p_22 p_23 p_24 p_25 p_26 p_27 p_28 p_29 p_30 p_31 p_32 x_4 to => loopN (impl_SwitchPacket_B1 N) N (impl_SwitchPacket_m1 list_ from_ vlan_1 x_3 x_4 p_17 p_18 p_19 p_20 p_21 p_22 p_23 p_24 p_25 p_26 p_27 p_28 p_29 p_30 p_31 p_32 to)) = (fun vlan_1 x_3 p_17 p_18 p_19 p_20 p_21 p_22 p_23 p_24 p_25 p_26 p_27 p_28 p_29 p_30 p_31 p_32 => impl_SwitchPacket_L1 Vm.bad impl_SwitchPacket_K N list_ from_ vlan_1 x_3 p_17 p_18 p_19 p_20 p_21 p_22 p_23 p_24 p_25 p_26 p_27 p_28 p_29 p_30 p_31 p_32 N) := by
    funext vlan_1 x_3 p_17 p_18 p_19 p_20 p_21 p_22 p_23 p_24 p_25 p_26 p_27 p_28 p_29 p_30 p_31 p_32
    exact impl_SwitchPacket_n1 N list_ from_ vlan_1 x_3 p_17 p_18 p_19 p_20 p_21 p_22 p_23 p_24 p_25 p_26 p_27 p_28 p_29 p_30 p_31 p_32 N
  refine (congrArg (fun l_ => impl_SwitchPacket_t Vm.bad impl_SwitchPacket_K l_ (fun vlan_1 x_3 p_17 p_18 p_19 p_20 p_21 p_22 p_23 p_24 p_25 p_26 p_27 p_28 p_29 p_30 p_31 p_32 x_4 to => loopN (impl_SwitchPacket_B1 N) N (impl_SwitchPacket_m1 list_ from_ vlan_1 x_3 x_4 p_17 p_18 p_19 p_20 p_21 p_22 p_23 p_24 p_25 p_26 p_27 p_28 p_29 p_30 p_31 p_32 to)) list_ from_ p) e0).trans ?_
  exact congrArg (fun l_ => impl_SwitchPacket_t Vm.bad impl_SwitchPacket_K (fun vlan x p_1 p_2 p_3 p_4 p_5 p_6 p_7 p_8 p_9 p_10 p_11 p_12 p_13 p_14 p_15 p_16 x_2 => impl_SwitchPacket_L0 Vm.bad impl_SwitchPacket_K N list_ from_ vlan x p_1 p_2 p_3 p_4 p_5 p_6 p_7 p_8 p_9 p_10 p_11 p_12 p_13 p_14 p_15 p_16 x_2 N) l_ list_ from_ p) e1
theorem impl_SwitchPacket_h : Holds Try.prog 21 impl_SwitchPacket_s := by
  refine holds_of_run (A := impl_SwitchPacket_A) impl_SwitchPacket_x Try.func21 rfl (by kernel_rfl) (of_decide_eq_true (by kernel_rfl)) (of_decide_eq_true (by kernel_rfl)) ?_
  intro ds hw hok
  replace hw : WtL ((.sl [.int .i64, .sl [.int .i64], .int .i64, .bool]) :: ((.int .i64) :: (SPacket.ct ++ ([])))) ds := hw
  obtain ⟨list_, ds, rfl, h_list_, hw⟩ := of_wt_sl hw
  obtain ⟨from_, ds, rfl, h_from_, hw⟩ := of_wt_int hw
  obtain ⟨p, ds, rfl, h_p, hw⟩ := SPacket.of_wt (r := _) hw
  obtain rfl := of_wt_nil hw
  obtain ⟨N, hN⟩ := impl_SwitchPacket_c Vm.bad impl_SwitchPacket_K list_ from_ p h_list_ h_from_ h_p
  exact ⟨N, ((impl_SwitchPacket_r N list_ from_ p).trans hN).trans (by kernel_rfl)⟩

def spec_SwitchPacket_s : Sum := { ps := [⟨[.sl [.int .i64, .sl [.int .i64], .int .i64, .bool]], false⟩, ⟨[.int .i64], false⟩, ⟨[.int .i64, .int .i64, .int .i64, .int .i64, .int .i64, .int .i64, .int .i64, .int .i64, .int .i64, .int .i64, .int .i64, .int .i64, .int .i64, .int .i64, .int .i64, .str], true⟩], rs := [⟨[.own 3 [.int .i64]], false⟩], fn := fun ds => (true, [.sl (SwitchPacket (rR ds 0) (rI ds 1) (SPacket.decAt ds 2))]) }
def spec_SwitchPacket_G : Ctx := [(16, spec_EntryVlan_s), (43, spec_l24Has_s)]
theorem spec_SwitchPacket_x : CtxHolds Try.prog spec_SwitchPacket_G := ctx_cons spec_EntryVlan_h (ctx_cons spec_l24Has_h ctx_nil)
def spec_SwitchPacket_A : List (Nat × Ann) := [(7, { slots := [(0, .asis), (1, .asis), (5, .asis), (7, .asis), (8, .asis), (9, .asis), (10, .asis)], boxes := [(320, [])] }), (12, { slots := [(0, .asis), (1, .asis), (5, .asis), (7, .asis), (8, .asis), (9, .asis), (11, .asis)], boxes := [(320, [])] })]
def spec_SwitchPacket_K : Rows → Res := (fun r0 => ((true, [.sl r0]) : Res))
def spec_SwitchPacket_m0 (list_ : Rows) (from_ : Int) (v : Int) (to : Int) (k : Int) (p_1 : Int) (p_2 : Int) (p_3 : Int) (p_4 : Int) (p_5 : Int) (p_6 : Int) (p_7 : Int) (p_8 : Int) (p_9 : Int) (p_10 : Int) (p_11 : Int) (p_12 : Int) (p_13 : Int) (p_14 : Int) (p_15 : Int) (p_16 : Bytes) (out_ : Rows) : St := { n := 68, sl := [(0, .sl [.int .i64, .sl [.int .i64], .int .i64, .bool] list_), (1, .int .i64 from_), (5, .ptr 320 0), (7, .own 640448), (8, .int .i64 v), (9, .int .i64 to), (10, .int .i64 k)], hp := [(320, .box 37 [.int .i64 p_1, .int .i64 p_2, .int .i64 p_3, .int .i64 p_4, .int .i64 p_5, .int .i64 p_6, .int .i64 p_7, .int .i64 p_8, .int .i64 p_9, .int .i64 p_10, .int .i64 p_11, .int .i64 p_12, .int .i64 p_13, .int .i64 p_14, .int .i64 p_15, .str p_16]), (640448, .row 3 [.int .i64] out_ false true)], ok := true, ls := [], lm := [] }
def spec_SwitchPacket_m1 (list_ : Rows) (from_ : Int) (v : Int) (to : Int) (k_1 : Int) (p_1 : Int) (p_2 : Int) (p_3 : Int) (p_4 : Int) (p_5 : Int) (p_6 : Int) (p_7 : Int) (p_8 : Int) (p_9 : Int) (p_10 : Int) (p_11 : Int) (p_12 : Int) (p_13 : Int) (p_14 : Int) (p_15 : Int) (p_16 : Bytes) (out_1 : Rows) : St := { n := 68, sl := [(0, .sl [.int .i64, .sl [.int .i64], .int .i64, .bool] list_), (1, .int .i64 from_), (5, .ptr 320 0), (7, .own 640448), (8, .int .i64 v), (9, .int .i64 to), (11, .int .i64 k_1)], hp := [(320, .box 37 [.int .i64 p_1, .int .i64 p_2, .int .i64 p_3, .int .i64 p_4, .int .i64 p_5, .int .i64 p_6, .int .i64 p_7, .int .i64 p_8, .int .i64 p_9, .int .i64 p_10, .int .i64 p_11, .int .i64 p_12, .int .i64 p_13, .int .i64 p_14, .int .i64 p_15, .str p_16]), (640448, .row 3 [.int .i64] out_1 false true)], ok := true, ls := [], lm := [] }
noncomputable def spec_SwitchPacket_B1 (N : Nat) : (St → Res) → St → Res := loopB Try.prog spec_SwitchPacket_G spec_SwitchPacket_A N Try.f24 spec_SwitchPacket_s [true, true, true, true, true, true, false, true, false] []
noncomputable def spec_SwitchPacket_B0 (N : Nat) : (St → Res) → St → Res := loopB Try.prog spec_SwitchPacket_G spec_SwitchPacket_A N Try.f24 spec_SwitchPacket_s [true, true, true, true, true, false, true, false] []
theorem spec_SwitchPacket_b1 (N : Nat) (list_ : Rows) (from_ : Int) (v : Int) (to : Int) (p_1 : Int) (p_2 : Int) (p_3 : Int) (p_4 : Int) (p_5 : Int) (p_6 : Int) (p_7 : Int) (p_8 : Int) (p_9 : Int) (p_10 : Int) (p_11 : Int) (p_12 : Int) (p_13 : Int) (p_14 : Int) (p_15 : Int) (p_16 : Bytes) (ih : St → Res) (k_1 : Int) (out_1 : Rows) : spec_SwitchPacket_B1 N ih (spec_SwitchPacket_m1 list_ from_ v to k_1 p_1 p_2 p_3 p_4 p_5 p_6 p_7 p_8 p_9 p_10 p_11 p_12 p_13 p_14 p_15 p_16 out_1) = spec_SwitchPacket_l1 Vm.bad spec_SwitchPacket_K list_ from_ v to p_1 (fun k_1 out_1 => ih (spec_SwitchPacket_m1 list_ from_ v to k_1 p_1 p_2 p_3 p_4 p_5 p_6 p_7 p_8 p_9 p_10 p_11 p_12 p_13 p_14 p_15 p_16 out_1)) k_1 out_1 := by kernel_rfl
theorem spec_SwitchPacket_n1 (N : Nat) (list_ : Rows) (from_ : Int) (v : Int) (to : Int) (p_1 : Int) (p_2 : Int) (p_3 : Int) (p_4 : Int) (p_5 : Int) (p_6 : Int) (p_7 : Int) (p_8 : Int) (p_9 : Int) (p_10 : Int) (p_11 : Int) (p_12 : Int) (p_13 : Int) (p_14 : Int) (p_15 : Int) (p_16 : Bytes) (m_ : Nat) : (fun k_1 out_1 => loopN (spec_SwitchPacket_B1 N) m_ (spec_SwitchPacket_m1 list_ from_ v to k_1 p_1 p_2 p_3 p_4 p_5 p_6 p_7 p_8 p_9 p_10 p_11 p_12 p_13 p_14 p_15 p_16 out_1)) = spec_SwitchPacket_L1 Vm.bad spec_SwitchPacket_K N list_ from_ v to p_1 m_ := by
  induction m_ with
  | zero => rfl
  | succ m_ ih =>
    funext k_1 out_1
    show spec_SwitchPacket_B1 N (loopN (spec_SwitchPacket_B1 N) m_) (spec_SwitchPacket_m1 list_ from_ v to k_1 p_1 p_2 p_3 p_4 p_5 p_6 p_7 p_8 p_9 p_10 p_11 p_12 p_13 p_14 p_15 p_16 out_1) = _
    rw [spec_SwitchPacket_b1 N list_ from_ v to p_1 p_2 p_3 p_4 p_5 p_6 p_7 p_8 p_9 p_10 p_11 p_12 p_13 p_14 p_15 p_16]
    rw [ih]
    rfl
theorem spec_SwitchPacket_b0 (N : Nat) (list_ : Rows) (from_ : Int) (v : Int) (p_1 : Int) (p_2 : Int) (p_3 : Int) (p_4 : Int) (p_5 : Int) (p_6 : Int) (p_7 : Int) (p_8 : Int) (p_9 : Int) (p_10 : Int) (p_11 : Int) (p_12 : Int) (p_13 : Int) (p_14 : Int) (p_15 : Int) (p_16 : Bytes) (out_ : Rows) (ih : St → Res) (to : Int) (k : Int) : spec_SwitchPacket_B0 N ih (spec_SwitchPacket_m0 list_ from_ v to k p_1 p_2 p_3 p_4 p_5 p_6 p_7 p_8 p_9 p_10 p_11 p_12 p_13 p_14 p_15 p_16 out_) = spec_SwitchPacket_l0 Vm.bad spec_SwitchPacket_K (fun to k_1 out_1 => loopN (spec_SwitchPacket_B1 N) N (spec_SwitchPacket_m1 list_ from_ v to k_1 p_1 p_2 p_3 p_4 p_5 p_6 p_7 p_8 p_9 p_10 p_11 p_12 p_13 p_14 p_15 p_16 out_1)) list_ from_ v p_1 out_ (fun to k => ih (spec_SwitchPacket_m0 list_ from_ v to k p_1 p_2 p_3 p_4 p_5 p_6 p_7 p_8 p_9 p_10 p_11 p_12 p_13 p_14 p_15 p_16 out_)) to k := by kernel_rfl
theorem spec_SwitchPacket_n0 (N : Nat) (list_ : Rows) (from_ : Int) (v : Int) (p_1 : Int) (p_2 : Int) (p_3 : Int) (p_4 : Int) (p_5 : Int) (p_6 : Int) (p_7 : Int) (p_8 : Int) (p_9 : Int) (p_10 : Int) (p_11 : Int) (p_12 : Int) (p_13 : Int) (p_14 : Int) (p_15 : Int) (p_16 : Bytes) (out_ : Rows) (m_ : Nat) : (fun to k => loopN (spec_SwitchPacket_B0 N) m_ (spec_SwitchPacket_m0 list_ from_ v to k p_1 p_2 p_3 p_4 p_5 p_6 p_7 p_8 p_9 p_10 p_11 p_12 p_13 p_14 p_15 p_16 out_)) = spec_SwitchPacket_L0 Vm.bad spec_SwitchPacket_K N list_ from_ v p_1 out_ m_ := by
  induction m_ with
  | zero => rfl
  | succ m_ ih =>
    funext to k
    show spec_SwitchPacket_B0 N (loopN (spec_SwitchPacket_B0 N) m_) (spec_SwitchPacket_m0 list_ from_ v to k p_1 p_2 p_3 p_4 p_5 p_6 p_7 p_8 p_9 p_10 p_11 p_12 p_13 p_14 p_15 p_16 out_) = _
    rw [spec_SwitchPacket_b0 N list_ from_ v p_1 p_2 p_3 p_4 p_5 p_6 p_7 p_8 p_9 p_10 p_11 p_12 p_13 p_14 p_15 p_16 out_]
    have e1 := funext fun to => spec_SwitchPacket_n1 N list_ from_ v to p_1 p_2 p_3 p_4 p_5 p_6 p_7 p_8 p_9 p_10 p_11 p_12 p_13 p_14 p_15 p_16 N
    rw [e1]
    rw [ih]
    rfl
theorem spec_SwitchPacket_r (N : Nat) (list_ : Rows) (from_ : Int) (p : SPacket) : runF Try.prog spec_SwitchPacket_G spec_SwitchPacket_A N Try.f24 spec_SwitchPacket_s (.sl list_ :: (.int from_ :: (p.enc ++ ([])))) = spec_SwitchPacket_f Vm.bad spec_SwitchPacket_K N list_ from_ p := by
  have run_ : runF Try.prog spec_SwitchPacket_G spec_SwitchPacket_A N Try.f24 spec_SwitchPacket_s (.sl list_ :: (.int from_ :: (p.enc ++ ([])))) = spec_SwitchPacket_t Vm.bad spec_SwitchPacket_K (fun v p_1 out_ to k => loopN (spec_SwitchPacket_B0 N) N (spec_SwitchPacket_m0 list_ from_ v to k p_1 p.SrcMac p.Vlan p.Tos p.Id p.Ttl p.SrcIp p.DstIp p.Seg.Kind p.Seg.SrcPort p.Seg.DstPort p.Seg.Seq p.Seg.Ack p.Seg.Flags p.Seg.Window p.Seg.Body out_)) list_ from_ p := by kernel_rfl
  refine run_.trans ?_
  unfold spec_SwitchPacket_f
  have e0 : (fun v p_1 out_ to k => loopN (spec_SwitchPacket_B0 N) N (spec_SwitchPacket_m0 list_ from_ v to k p_1 p.SrcMac p.Vlan p.Tos p.Id p.Ttl p.SrcIp p.DstIp p.Seg.Kind p.Seg.SrcPort p.Seg.DstPort p.Seg.Seq p.Seg.Ack p.Seg.Flags p.Seg.Window p.Seg.Body out_)) = (fun v p_1 out_ => spec_SwitchPacket_L0 Vm.bad spec_SwitchPacket_K N list_ from_ v p_1 out_ N) := by
    funext v p_1 out_
    exact spec_SwitchPacket_n0 N list_ from_ v p_1 p.SrcMac p.Vlan p.Tos p.Id p.Ttl p.SrcIp p.DstIp p.Seg.Kind p.Seg.SrcPort p.Seg.DstPort p.Seg.Seq p.Seg.Ack p.Seg.Flags p.Seg.Window p.Seg.Body out_ N
  exact congrArg (fun l_ => spec_SwitchPacket_t Vm.bad spec_SwitchPacket_K l_ list_ from_ p) e0
theorem spec_SwitchPacket_h : Holds Try.prog 24 spec_SwitchPacket_s := by
  refine holds_of_run (A := spec_SwitchPacket_A) spec_SwitchPacket_x Try.func24 rfl (by kernel_rfl) (of_decide_eq_true (by kernel_rfl)) (of_decide_eq_true (by kernel_rfl)) ?_
  intro ds hw hok
  replace hw : WtL ((.sl [.int .i64, .sl [.int .i64], .int .i64, .bool]) :: ((.int .i64) :: (SPacket.ct ++ ([])))) ds := hw
  obtain ⟨list_, ds, rfl, h_list_, hw⟩ := of_wt_sl hw
  obtain ⟨from_, ds, rfl, h_from_, hw⟩ := of_wt_int hw
  obtain ⟨p, ds, rfl, h_p, hw⟩ := SPacket.of_wt (r := _) hw
  obtain rfl := of_wt_nil hw
  obtain ⟨N, hN⟩ := spec_SwitchPacket_c Vm.bad spec_SwitchPacket_K list_ from_ p h_list_ h_from_ h_p
  exact ⟨N, ((spec_SwitchPacket_r N list_ from_ p).trans hN).trans (by kernel_rfl)⟩

end
end Go.Proofs.Ytklbgnodgnlebaa.Pl
