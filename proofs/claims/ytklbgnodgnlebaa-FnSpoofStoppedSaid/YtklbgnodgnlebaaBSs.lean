/- The contracts of functions of the program: each computes what its plain form says. Conditions: none. -/
import Derived.Test.YtklbgnodgnlebaaPSs
import Derived.Test.YtklbgnodgnlebaaRows
import Derived.Test.YtklbgnodgnlebaaBSz
import Derived.Test.YtklbgnodgnlebaaBSv
set_option linter.unusedVariables false
set_option linter.unusedSimpArgs false
set_option maxRecDepth 100000
namespace Go.Proofs.Ytklbgnodgnlebaa.Pl
open Vm
noncomputable section

def laws_FnSpoofStopped_s : Sum := { ps := [⟨[.sl [.int .u8]], false⟩], rs := [⟨[.imm .bool], false⟩], fn := fun ds => (fitL ((.sl [.int .u8]) :: ([])) ds, [.bool true]) }
def laws_FnSpoofStopped_G : Ctx := [(1125899906842667, annS), (18, impl_EntryVlan_s), (19, laws_big_s), (20, spec_DrawSwitch_s), (24, spec_SwitchPacket_s), (25, impl_DeliverPorts_s)]
theorem laws_FnSpoofStopped_x : CtxHolds Try.prog laws_FnSpoofStopped_G := ctx_cons ann_h (ctx_cons impl_EntryVlan_h (ctx_cons laws_big_h (ctx_cons spec_DrawSwitch_h (ctx_cons spec_SwitchPacket_h (ctx_cons impl_DeliverPorts_h ctx_nil)))))
def laws_FnSpoofStopped_A : List (Nat × Ann) := [(9, { slots := [(3, .asis), (4, .asis), (5, .asis), (6, .asis), (7, .asis), (8, .asis)], boxes := [(320, [])] })]
def laws_FnSpoofStopped_K : Bool → Res := (fun r0 => ((true, [.bool r0]) : Res))
def laws_FnSpoofStopped_m0 (from_ : Int) (sum : Int) (k : Int) (p : Int) (p_1 : Int) (p_2 : Int) (p_3 : Int) (p_4 : Int) (p_5 : Int) (p_6 : Int) (p_7 : Int) (p_8 : Int) (p_9 : Int) (p_10 : Int) (p_11 : Int) (p_12 : Int) (p_13 : Int) (p_14 : Int) (p_15 : Bytes) (list_ : Rows) (ports : Rows) : St := { n := 78, sl := [(3, .own 640192), (4, .int .i64 from_), (5, .ptr 320 0), (6, .own 640384), (7, .int .i64 sum), (8, .int .i64 k)], hp := [(320, .box 37 [.int .i64 p, .int .i64 p_1, .int .i64 p_2, .int .i64 p_3, .int .i64 p_4, .int .i64 p_5, .int .i64 p_6, .int .i64 p_7, .int .i64 p_8, .int .i64 p_9, .int .i64 p_10, .int .i64 p_11, .int .i64 p_12, .int .i64 p_13, .int .i64 p_14, .str p_15]), (640192, .row 48 [.int .i64, .sl [.int .i64], .int .i64, .bool] list_ false true), (640384, .deep 52 [.sl [.int .i64, .int .i64, .int .i64, .int .i64, .int .i64, .int .i64, .int .i64, .int .i64, .int .i64, .int .i64, .int .i64, .int .i64, .int .i64, .int .i64, .int .i64, .str]] [37] ports none)], ok := true, ls := [], lm := [] }
noncomputable def laws_FnSpoofStopped_B0 (N : Nat) : (St → Res) → St → Res := loopB Try.prog laws_FnSpoofStopped_G laws_FnSpoofStopped_A N Try.f6 laws_FnSpoofStopped_s [true, true, true, true, true, true, true, false, true, false] []
theorem laws_FnSpoofStopped_b0 (N : Nat) (from_ : Int) (p : Int) (p_1 : Int) (p_2 : Int) (p_3 : Int) (p_4 : Int) (p_5 : Int) (p_6 : Int) (p_7 : Int) (p_8 : Int) (p_9 : Int) (p_10 : Int) (p_11 : Int) (p_12 : Int) (p_13 : Int) (p_14 : Int) (p_15 : Bytes) (list_ : Rows) (ih : St → Res) (sum : Int) (k : Int) (ports : Rows) : laws_FnSpoofStopped_B0 N ih (laws_FnSpoofStopped_m0 from_ sum k p p_1 p_2 p_3 p_4 p_5 p_6 p_7 p_8 p_9 p_10 p_11 p_12 p_13 p_14 p_15 list_ ports) = laws_FnSpoofStopped_l0 Vm.bad laws_FnSpoofStopped_K from_ p p_1 p_2 p_3 p_4 p_5 p_6 p_7 p_8 p_9 p_10 p_11 p_12 p_13 p_14 p_15 list_ (fun sum k ports => ih (laws_FnSpoofStopped_m0 from_ sum k p p_1 p_2 p_3 p_4 p_5 p_6 p_7 p_8 p_9 p_10 p_11 p_12 p_13 p_14 p_15 list_ ports)) sum k ports := by kernel_rfl
theorem laws_FnSpoofStopped_n0 (N : Nat) (from_ : Int) (p : Int) (p_1 : Int) (p_2 : Int) (p_3 : Int) (p_4 : Int) (p_5 : Int) (p_6 : Int) (p_7 : Int) (p_8 : Int) (p_9 : Int) (p_10 : Int) (p_11 : Int) (p_12 : Int) (p_13 : Int) (p_14 : Int) (p_15 : Bytes) (list_ : Rows) (m_ : Nat) : (fun sum k ports => loopN (laws_FnSpoofStopped_B0 N) m_ (laws_FnSpoofStopped_m0 from_ sum k p p_1 p_2 p_3 p_4 p_5 p_6 p_7 p_8 p_9 p_10 p_11 p_12 p_13 p_14 p_15 list_ ports)) = laws_FnSpoofStopped_L0 Vm.bad laws_FnSpoofStopped_K N from_ p p_1 p_2 p_3 p_4 p_5 p_6 p_7 p_8 p_9 p_10 p_11 p_12 p_13 p_14 p_15 list_ m_ := by
  induction m_ with
  | zero => rfl
  | succ m_ ih =>
    funext sum k ports
    show laws_FnSpoofStopped_B0 N (loopN (laws_FnSpoofStopped_B0 N) m_) (laws_FnSpoofStopped_m0 from_ sum k p p_1 p_2 p_3 p_4 p_5 p_6 p_7 p_8 p_9 p_10 p_11 p_12 p_13 p_14 p_15 list_ ports) = _
    rw [laws_FnSpoofStopped_b0 N from_ p p_1 p_2 p_3 p_4 p_5 p_6 p_7 p_8 p_9 p_10 p_11 p_12 p_13 p_14 p_15 list_]
    rw [ih]
    rfl
theorem laws_FnSpoofStopped_r (N : Nat) (code : Rows) : runF Try.prog laws_FnSpoofStopped_G laws_FnSpoofStopped_A N Try.f6 laws_FnSpoofStopped_s (.sl code :: ([])) = laws_FnSpoofStopped_f Vm.bad laws_FnSpoofStopped_K N code := by
  have run_ : runF Try.prog laws_FnSpoofStopped_G laws_FnSpoofStopped_A N Try.f6 laws_FnSpoofStopped_s (.sl code :: ([])) = laws_FnSpoofStopped_t Vm.bad laws_FnSpoofStopped_K (fun from_ p p_1 p_2 p_3 p_4 p_5 p_6 p_7 p_8 p_9 p_10 p_11 p_12 p_13 p_14 p_15 list_ sum k ports => loopN (laws_FnSpoofStopped_B0 N) N (laws_FnSpoofStopped_m0 from_ sum k p p_1 p_2 p_3 p_4 p_5 p_6 p_7 p_8 p_9 p_10 p_11 p_12 p_13 p_14 p_15 list_ ports)) code := by kernel_rfl
  refine run_.trans ?_
  unfold laws_FnSpoofStopped_f
  have e0 : (fun from_ p p_1 p_2 p_3 p_4 p_5 p_6 p_7 p_8 p_9 p_10 p_11 p_12 p_13 p_14 p_15 list_ sum k ports => loopN (laws_FnSpoofStopped_B0 N) N (laws_FnSpoofStopped_m0 from_ sum k p p_1 p_2 p_3 p_4 p_5 p_6 p_7 p_8 p_9 p_10 p_11 p_12 p_13 p_14 p_15 list_ ports)) = (fun from_ p p_1 p_2 p_3 p_4 p_5 p_6 p_7 p_8 p_9 p_10 p_11 p_12 p_13 p_14 p_15 list_ => laws_FnSpoofStopped_L0 Vm.bad laws_FnSpoofStopped_K N from_ p p_1 p_2 p_3 p_4 p_5 p_6 p_7 p_8 p_9 p_10 p_11 p_12 p_13 p_14 p_15 list_ N) := by
    funext from_ p p_1 p_2 p_3 p_4 p_5 p_6 p_7 p_8 p_9 p_10 p_11 p_12 p_13 p_14 p_15 list_
    exact laws_FnSpoofStopped_n0 N from_ p p_1 p_2 p_3 p_4 p_5 p_6 p_7 p_8 p_9 p_10 p_11 p_12 p_13 p_14 p_15 list_ N
  exact congrArg (fun l_ => laws_FnSpoofStopped_t Vm.bad laws_FnSpoofStopped_K l_ code) e0
theorem laws_FnSpoofStopped_h : Holds Try.prog 6 laws_FnSpoofStopped_s := by
  refine holds_of_run (A := laws_FnSpoofStopped_A) laws_FnSpoofStopped_x Try.func6 rfl (by kernel_rfl) (of_decide_eq_true (by kernel_rfl)) (of_decide_eq_true (by kernel_rfl)) ?_
  intro ds hw hok
  replace hw : WtL ((.sl [.int .u8]) :: ([])) ds := hw
  obtain ⟨code, ds, rfl, h_code, hw⟩ := of_wt_sl hw
  obtain rfl := of_wt_nil hw
  obtain ⟨N, hN⟩ := laws_FnSpoofStopped_c Vm.bad laws_FnSpoofStopped_K code h_code hok
  exact ⟨N, ((laws_FnSpoofStopped_r N code).trans hN).trans (by kernel_rfl)⟩

end
end Go.Proofs.Ytklbgnodgnlebaa.Pl
