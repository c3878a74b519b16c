/- The contracts of functions of the program: each computes what its plain form says. Conditions: none. -/
import Derived.Test.YtklbgnodgnlebaaPSz
import Derived.Test.YtklbgnodgnlebaaRows
import Derived.Test.YtklbgnodgnlebaaBSy
import Derived.Test.YtklbgnodgnlebaaBDr
set_option linter.unusedVariables false
set_option linter.unusedSimpArgs false
set_option maxRecDepth 100000
namespace Go.Proofs.Ytklbgnodgnlebaa.Pl
open Vm
noncomputable section

def spec_DrawSwitch_s : Sum := { ps := [⟨[.sl [.int .u8]], false⟩], rs := [⟨[.own 48 [.int .i64, .sl [.int .i64], .int .i64, .bool]], false⟩, ⟨[.imm (.int .i64)], false⟩, ⟨[.imm (.int .i64), .imm (.int .i64), .imm (.int .i64), .imm (.int .i64), .imm (.int .i64), .imm (.int .i64), .imm (.int .i64), .imm (.int .i64), .imm (.int .i64), .imm (.int .i64), .imm (.int .i64), .imm (.int .i64), .imm (.int .i64), .imm (.int .i64), .imm (.int .i64), .imm .str], true⟩], fn := fun ds => (DrawSwitch_ok (rR ds 0), [.sl (DrawSwitch (rR ds 0)).1] ++ [.int (DrawSwitch (rR ds 0)).2.1] ++ SPacket.enc (DrawSwitch (rR ds 0)).2.2) }
def spec_DrawSwitch_G : Ctx := [(55, spec_l01New_s), (56, spec_l32Ports_s), (57, spec_l01Below_s), (58, spec_l07Packet_s), (59, spec_l01Once_s), (60, spec_l01PickInt_s)]
theorem spec_DrawSwitch_x : CtxHolds Try.prog spec_DrawSwitch_G := ctx_cons spec_l01New_h (ctx_cons spec_l32Ports_h (ctx_cons spec_l01Below_h (ctx_cons spec_l07Packet_h (ctx_cons spec_l01Once_h (ctx_cons spec_l01PickInt_h ctx_nil)))))
def spec_DrawSwitch_A : List (Nat × Ann) := []
theorem spec_DrawSwitch_r (N : Nat) (code : Rows) : runF Try.prog spec_DrawSwitch_G spec_DrawSwitch_A N Try.f20 spec_DrawSwitch_s (.sl code :: ([])) = spec_DrawSwitch_t Vm.bad (fun r0 r1 r2 => ((true, [.sl r0] ++ [.int r1] ++ SPacket.enc r2) : Res)) code := by kernel_rfl
theorem spec_DrawSwitch_h : Holds Try.prog 20 spec_DrawSwitch_s := by
  refine holds_of_run (A := spec_DrawSwitch_A) spec_DrawSwitch_x Try.func20 rfl (by kernel_rfl) (of_decide_eq_true (by kernel_rfl)) (of_decide_eq_true (by kernel_rfl)) ?_
  intro ds hw hok
  replace hw : WtL ((.sl [.int .u8]) :: ([])) ds := hw
  obtain ⟨code, ds, rfl, h_code, hw⟩ := of_wt_sl hw
  obtain rfl := of_wt_nil hw
  exact ⟨0, ((spec_DrawSwitch_r 0 code).trans (spec_DrawSwitch_c Vm.bad _ code hok)).trans (by kernel_rfl)⟩

def laws_has_s : Sum := { ps := [⟨[.sl [.int .i64]], false⟩, ⟨[.int .i64], false⟩], rs := [⟨[.imm .bool], false⟩], fn := fun ds => (true, [.bool (hasInt (rR ds 0) (rI ds 1))]) }
def laws_has_G : Ctx := []
theorem laws_has_x : CtxHolds Try.prog laws_has_G := ctx_nil
def laws_has_A : List (Nat × Ann) := [(2, { slots := [(0, .asis), (1, .asis), (5, .asis)], boxes := [] })]
def laws_has_K : Bool → Res := (fun r0 => ((true, [.bool r0]) : Res))
def laws_has_m0 (list_ : Rows) (k : Int) (i : Int) : St := { n := 18, sl := [(0, .sl [.int .i64] list_), (1, .int .i64 k), (5, .int .i64 i)], hp := [], ok := true, ls := [], lm := [] }
noncomputable def laws_has_B0 (N : Nat) : (St → Res) → St → Res := loopB Try.prog laws_has_G laws_has_A N Try.f22 laws_has_s [true, false, true, false] []
theorem laws_has_b0 (N : Nat) (list_ : Rows) (k : Int) (ih : St → Res) (i : Int) : laws_has_B0 N ih (laws_has_m0 list_ k i) = laws_has_l0 Vm.bad laws_has_K list_ k (fun i => ih (laws_has_m0 list_ k i)) i := by kernel_rfl
theorem laws_has_n0 (N : Nat) (list_ : Rows) (k : Int) (m_ : Nat) : (fun i => loopN (laws_has_B0 N) m_ (laws_has_m0 list_ k i)) = laws_has_L0 Vm.bad laws_has_K N list_ k m_ := by
  induction m_ with
  | zero => rfl
  | succ m_ ih =>
    funext i
    show laws_has_B0 N (loopN (laws_has_B0 N) m_) (laws_has_m0 list_ k i) = _
    rw [laws_has_b0 N list_ k]
    rw [ih]
    rfl
theorem laws_has_r (N : Nat) (list_ : Rows) (k : Int) : runF Try.prog laws_has_G laws_has_A N Try.f22 laws_has_s (.sl list_ :: (.int k :: ([]))) = laws_has_f Vm.bad laws_has_K N list_ k := by
  have run_ : runF Try.prog laws_has_G laws_has_A N Try.f22 laws_has_s (.sl list_ :: (.int k :: ([]))) = laws_has_t Vm.bad laws_has_K (fun i => loopN (laws_has_B0 N) N (laws_has_m0 list_ k i)) list_ k := by kernel_rfl
  refine run_.trans ?_
  unfold laws_has_f
  have e0 : (fun i => loopN (laws_has_B0 N) N (laws_has_m0 list_ k i)) = (laws_has_L0 Vm.bad laws_has_K N list_ k N) := by
    exact laws_has_n0 N list_ k N
  exact congrArg (fun l_ => laws_has_t Vm.bad laws_has_K l_ list_ k) e0
theorem laws_has_h : Holds Try.prog 22 laws_has_s := by
  refine holds_of_run (A := laws_has_A) laws_has_x Try.func22 rfl (by kernel_rfl) (of_decide_eq_true (by kernel_rfl)) (of_decide_eq_true (by kernel_rfl)) ?_
  intro ds hw hok
  replace hw : WtL ((.sl [.int .i64]) :: ((.int .i64) :: ([]))) ds := hw
  obtain ⟨list_, ds, rfl, h_list_, hw⟩ := of_wt_sl hw
  obtain ⟨k, ds, rfl, h_k, hw⟩ := of_wt_int hw
  obtain rfl := of_wt_nil hw
  obtain ⟨N, hN⟩ := laws_has_c Vm.bad laws_has_K list_ k h_list_ h_k
  exact ⟨N, ((laws_has_r N list_ k).trans hN).trans (by kernel_rfl)⟩

def laws_big_s : Sum := { ps := [⟨[.sl [.int .u8]], false⟩], rs := [⟨[.imm .bool], false⟩], fn := fun ds => (true, [.bool (big (rR ds 0))]) }
def laws_big_G : Ctx := []
theorem laws_big_x : CtxHolds Try.prog laws_big_G := ctx_nil
def laws_big_A : List (Nat × Ann) := []
theorem laws_big_r (N : Nat) (code : Rows) : runF Try.prog laws_big_G laws_big_A N Try.f19 laws_big_s (.sl code :: ([])) = laws_big_t (fun r0 => ((true, [.bool r0]) : Res)) code := by kernel_rfl
theorem laws_big_h : Holds Try.prog 19 laws_big_s := by
  refine holds_of_run (A := laws_big_A) laws_big_x Try.func19 rfl (by kernel_rfl) (of_decide_eq_true (by kernel_rfl)) (of_decide_eq_true (by kernel_rfl)) ?_
  intro ds hw hok
  replace hw : WtL ((.sl [.int .u8]) :: ([])) ds := hw
  obtain ⟨code, ds, rfl, h_code, hw⟩ := of_wt_sl hw
  obtain rfl := of_wt_nil hw
  exact ⟨0, ((laws_big_r 0 code).trans (laws_big_c _ code)).trans (by kernel_rfl)⟩

def laws_FnSwitched_s : Sum := { ps := [⟨[.sl [.int .u8]], false⟩], rs := [⟨[.imm .bool], false⟩], fn := fun ds => (fitL ((.sl [.int .u8]) :: ([])) ds, [.bool true]) }
def laws_FnSwitched_G : Ctx := [(16, spec_EntryVlan_s), (18, impl_EntryVlan_s), (19, laws_big_s), (20, spec_DrawSwitch_s), (21, impl_SwitchPacket_s), (22, laws_has_s), (23, impl_LeavePacket_s), (24, spec_SwitchPacket_s)]
theorem laws_FnSwitched_x : CtxHolds Try.prog laws_FnSwitched_G := ctx_cons spec_EntryVlan_h (ctx_cons impl_EntryVlan_h (ctx_cons laws_big_h (ctx_cons spec_DrawSwitch_h (ctx_cons impl_SwitchPacket_h (ctx_cons laws_has_h (ctx_cons impl_LeavePacket_h (ctx_cons spec_SwitchPacket_h ctx_nil)))))))
def laws_FnSwitched_A : List (Nat × Ann) := [(9, { slots := [(3, .asis), (4, .asis), (5, .asis), (6, .asis), (7, .asis), (8, .asis)], boxes := [(320, [])] })]
def laws_FnSwitched_K : Bool → Res := (fun r0 => ((true, [.bool r0]) : Res))
def laws_FnSwitched_m0 (from_ : Int) (v : Int) (k : Int) (p : Int) (p_1 : Int) (p_2 : Int) (p_3 : Int) (p_4 : Int) (p_5 : Int) (p_6 : Int) (p_7 : Int) (p_8 : Int) (p_9 : Int) (p_10 : Int) (p_11 : Int) (p_12 : Int) (p_13 : Int) (p_14 : Int) (p_15 : Bytes) (list_ : Rows) (out_ : Rows) : St := { n := 125, sl := [(3, .own 640192), (4, .int .i64 from_), (5, .ptr 320 0), (6, .int .i64 v), (7, .own 640448), (8, .int .i64 k)], hp := [(320, .box 37 [.int .i64 p, .int .i64 p_1, .int .i64 p_2, .int .i64 p_3, .int .i64 p_4, .int .i64 p_5, .int .i64 p_6, .int .i64 p_7, .int .i64 p_8, .int .i64 p_9, .int .i64 p_10, .int .i64 p_11, .int .i64 p_12, .int .i64 p_13, .int .i64 p_14, .str p_15]), (640192, .row 48 [.int .i64, .sl [.int .i64], .int .i64, .bool] list_ false true), (640448, .row 3 [.int .i64] out_ false true)], ok := true, ls := [], lm := [] }
noncomputable def laws_FnSwitched_B0 (N : Nat) : (St → Res) → St → Res := loopB Try.prog laws_FnSwitched_G laws_FnSwitched_A N Try.f5 laws_FnSwitched_s [true, true, true, true, true, true, false, true, false] []
theorem laws_FnSwitched_b0 (N : Nat) (from_ : Int) (v : Int) (p : Int) (p_1 : Int) (p_2 : Int) (p_3 : Int) (p_4 : Int) (p_5 : Int) (p_6 : Int) (p_7 : Int) (p_8 : Int) (p_9 : Int) (p_10 : Int) (p_11 : Int) (p_12 : Int) (p_13 : Int) (p_14 : Int) (p_15 : Bytes) (list_ : Rows) (out_ : Rows) (ih : St → Res) (k : Int) : laws_FnSwitched_B0 N ih (laws_FnSwitched_m0 from_ v k p p_1 p_2 p_3 p_4 p_5 p_6 p_7 p_8 p_9 p_10 p_11 p_12 p_13 p_14 p_15 list_ out_) = laws_FnSwitched_l0 Vm.bad laws_FnSwitched_K from_ v p p_1 p_2 p_3 p_4 p_5 p_6 p_7 p_8 p_9 p_10 p_11 p_12 p_13 p_14 p_15 list_ out_ (fun k => ih (laws_FnSwitched_m0 from_ v k p p_1 p_2 p_3 p_4 p_5 p_6 p_7 p_8 p_9 p_10 p_11 p_12 p_13 p_14 p_15 list_ out_)) k := by kernel_rfl
theorem laws_FnSwitched_n0 (N : Nat) (from_ : Int) (v : Int) (p : Int) (p_1 : Int) (p_2 : Int) (p_3 : Int) (p_4 : Int) (p_5 : Int) (p_6 : Int) (p_7 : Int) (p_8 : Int) (p_9 : Int) (p_10 : Int) (p_11 : Int) (p_12 : Int) (p_13 : Int) (p_14 : Int) (p_15 : Bytes) (list_ : Rows) (out_ : Rows) (m_ : Nat) : (fun k => loopN (laws_FnSwitched_B0 N) m_ (laws_FnSwitched_m0 from_ v k p p_1 p_2 p_3 p_4 p_5 p_6 p_7 p_8 p_9 p_10 p_11 p_12 p_13 p_14 p_15 list_ out_)) = laws_FnSwitched_L0 Vm.bad laws_FnSwitched_K N from_ v p p_1 p_2 p_3 p_4 p_5 p_6 p_7 p_8 p_9 p_10 p_11 p_12 p_13 p_14 p_15 list_ out_ m_ := by
  induction m_ with
  | zero => rfl
  | succ m_ ih =>
    funext k
    show laws_FnSwitched_B0 N (loopN (laws_FnSwitched_B0 N) m_) (laws_FnSwitched_m0 from_ v k p p_1 p_2 p_3 p_4 p_5 p_6 p_7 p_8 p_9 p_10 p_11 p_12 p_13 p_14 p_15 list_ out_) = _
    rw [laws_FnSwitched_b0 N from_ v p p_1 p_2 p_3 p_4 p_5 p_6 p_7 p_8 p_9 p_10 p_11 p_12 p_13 p_14 p_15 list_ out_]
    rw [ih]
    rfl
theorem laws_FnSwitched_r (N : Nat) (code : Rows) : runF Try.prog laws_FnSwitched_G laws_FnSwitched_A N Try.f5 laws_FnSwitched_s (.sl code :: ([])) = laws_FnSwitched_f Vm.bad laws_FnSwitched_K N code := by
  have run_ : runF Try.prog laws_FnSwitched_G laws_FnSwitched_A N Try.f5 laws_FnSwitched_s (.sl code :: ([])) = laws_FnSwitched_t Vm.bad laws_FnSwitched_K (fun from_ v p p_1 p_2 p_3 p_4 p_5 p_6 p_7 p_8 p_9 p_10 p_11 p_12 p_13 p_14 p_15 list_ out_ k => loopN (laws_FnSwitched_B0 N) N (laws_FnSwitched_m0 from_ v k p p_1 p_2 p_3 p_4 p_5 p_6 p_7 p_8 p_9 p_10 p_11 p_12 p_13 p_14 p_15 list_ out_)) code := by kernel_rfl
  refine run_.trans ?_
  unfold laws_FnSwitched_f
  have e0 : (fun from_ v p p_1 p_2 p_3 p_4 p_5 p_6 p_7 p_8 p_9 p_10 p_11 p_12 p_13 p_14 p_15 list_ out_ k => loopN (laws_FnSwitched_B0 N) N (laws_FnSwitched_m0 from_ v k p p_1 p_2 p_3 p_4 p_5 p_6 p_7 p_8 p_9 p_10 p_11 p_12 p_13 p_14 p_15 list_ out_)) = (fun from_ v p p_1 p_2 p_3 p_4 p_5 p_6 p_7 p_8 p_9 p_10 p_11 p_12 p_13 p_14 p_15 list_ out_ => laws_FnSwitched_L0 Vm.bad laws_FnSwitched_K N from_ v p p_1 p_2 p_3 p_4 p_5 p_6 p_7 p_8 p_9 p_10 p_11 p_12 p_13 p_14 p_15 list_ out_ N) := by
    funext from_ v p p_1 p_2 p_3 p_4 p_5 p_6 p_7 p_8 p_9 p_10 p_11 p_12 p_13 p_14 p_15 list_ out_
    exact laws_FnSwitched_n0 N from_ v p p_1 p_2 p_3 p_4 p_5 p_6 p_7 p_8 p_9 p_10 p_11 p_12 p_13 p_14 p_15 list_ out_ N
  exact congrArg (fun l_ => laws_FnSwitched_t Vm.bad laws_FnSwitched_K l_ code) e0
theorem laws_FnSwitched_h : Holds Try.prog 5 laws_FnSwitched_s := by
  refine holds_of_run (A := laws_FnSwitched_A) laws_FnSwitched_x Try.func5 rfl (by kernel_rfl) (of_decide_eq_true (by kernel_rfl)) (of_decide_eq_true (by kernel_rfl)) ?_
  intro ds hw hok
  replace hw : WtL ((.sl [.int .u8]) :: ([])) ds := hw
  obtain ⟨code, ds, rfl, h_code, hw⟩ := of_wt_sl hw
  obtain rfl := of_wt_nil hw
  obtain ⟨N, hN⟩ := laws_FnSwitched_c Vm.bad laws_FnSwitched_K code h_code hok
  exact ⟨N, ((laws_FnSwitched_r N code).trans hN).trans (by kernel_rfl)⟩

end
end Go.Proofs.Ytklbgnodgnlebaa.Pl
