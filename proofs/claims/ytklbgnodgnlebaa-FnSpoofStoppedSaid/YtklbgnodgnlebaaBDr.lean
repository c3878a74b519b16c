/- The contracts of functions of the program: each computes what its plain form says. Conditions: none. -/
import Derived.Test.YtklbgnodgnlebaaPDr
import Derived.Test.YtklbgnodgnlebaaRows
import Derived.Test.YtklbgnodgnlebaaBSx
import Derived.Test.YtklbgnodgnlebaaBCu
set_option linter.unusedVariables false
set_option linter.unusedSimpArgs false
set_option maxRecDepth 100000
namespace Go.Proofs.Ytklbgnodgnlebaa.Pl
open Vm
noncomputable section

def spec_l06Host_s : Sum := { ps := [⟨[.sl [.int .u8], .int .i64, .int .i64], true⟩], rs := [⟨[.imm (.int .i64)], false⟩], fn := fun ds => (l06Host_ok (Sl01Cur.decAt ds 0), [.int (l06Host (Sl01Cur.decAt ds 0)).1] ++ Sl01Cur.enc (l06Host (Sl01Cur.decAt ds 0)).2), ms := [some (.box 91)] }
def spec_l06Host_G : Ctx := [(57, spec_l01Below_s)]
theorem spec_l06Host_x : CtxHolds Try.prog spec_l06Host_G := ctx_cons spec_l01Below_h ctx_nil
def spec_l06Host_A : List (Nat × Ann) := []
theorem spec_l06Host_r (N : Nat) (c : Sl01Cur) : runFM Try.prog spec_l06Host_G spec_l06Host_A N Try.f70 spec_l06Host_s (c.enc ++ ([])) = spec_l06Host_t Vm.bad (fun r0 r1 => ((true, [.int r0] ++ Sl01Cur.enc r1) : Res)) c := by kernel_rfl
theorem spec_l06Host_h : HoldsM Try.prog 70 spec_l06Host_s := by
  refine holdsM_of_run (A := spec_l06Host_A) spec_l06Host_x Try.func70 rfl (by kernel_rfl) (of_decide_eq_true (by kernel_rfl)) (of_decide_eq_true (by kernel_rfl)) (by kernel_rfl) (fun ds => by kernel_rfl) ?_
  intro ds hw hok
  replace hw : WtL (Sl01Cur.ct ++ ([])) ds := hw
  obtain ⟨c, ds, rfl, h_c, hw⟩ := Sl01Cur.of_wt (r := _) hw
  obtain rfl := of_wt_nil hw
  exact ⟨0, ((spec_l06Host_r 0 c).trans (spec_l06Host_c Vm.bad _ c hok)).trans (by kernel_rfl)⟩

def spec_l06Flags_s : Sum := { ps := [⟨[.sl [.int .u8], .int .i64, .int .i64], true⟩], rs := [⟨[.imm (.int .i64)], false⟩], fn := fun ds => (l06Flags_ok (Sl01Cur.decAt ds 0), [.int (l06Flags (Sl01Cur.decAt ds 0)).1] ++ Sl01Cur.enc (l06Flags (Sl01Cur.decAt ds 0)).2), ms := [some (.box 91)] }
def spec_l06Flags_G : Ctx := [(60, spec_l01PickInt_s)]
theorem spec_l06Flags_x : CtxHolds Try.prog spec_l06Flags_G := ctx_cons spec_l01PickInt_h ctx_nil
def spec_l06Flags_A : List (Nat × Ann) := []
theorem spec_l06Flags_r (N : Nat) (c : Sl01Cur) : runFM Try.prog spec_l06Flags_G spec_l06Flags_A N Try.f73 spec_l06Flags_s (c.enc ++ ([])) = spec_l06Flags_t Vm.bad (fun r0 r1 => ((true, [.int r0] ++ Sl01Cur.enc r1) : Res)) c := by kernel_rfl
theorem spec_l06Flags_h : HoldsM Try.prog 73 spec_l06Flags_s := by
  refine holdsM_of_run (A := spec_l06Flags_A) spec_l06Flags_x Try.func73 rfl (by kernel_rfl) (of_decide_eq_true (by kernel_rfl)) (of_decide_eq_true (by kernel_rfl)) (by kernel_rfl) (fun ds => by kernel_rfl) ?_
  intro ds hw hok
  replace hw : WtL (Sl01Cur.ct ++ ([])) ds := hw
  obtain ⟨c, ds, rfl, h_c, hw⟩ := Sl01Cur.of_wt (r := _) hw
  obtain rfl := of_wt_nil hw
  exact ⟨0, ((spec_l06Flags_r 0 c).trans (spec_l06Flags_c Vm.bad _ c hok)).trans (by kernel_rfl)⟩

def spec_l06Segment_s : Sum := { ps := [⟨[.sl [.int .u8], .int .i64, .int .i64], true⟩, ⟨[.int .i64], false⟩], rs := [⟨[.imm (.int .i64), .imm (.int .i64), .imm (.int .i64), .imm (.int .i64), .imm (.int .i64), .imm (.int .i64), .imm (.int .i64), .imm .str], true⟩], fn := fun ds => (l06Segment_ok (Sl01Cur.decAt ds 0) (rI ds 3), SSegment.enc (l06Segment (Sl01Cur.decAt ds 0) (rI ds 3)).1 ++ Sl01Cur.enc (l06Segment (Sl01Cur.decAt ds 0) (rI ds 3)).2), ms := [some (.box 91), none] }
def spec_l06Segment_G : Ctx := [(57, spec_l01Below_s), (59, spec_l01Once_s), (60, spec_l01PickInt_s), (72, spec_l01Text_s), (73, spec_l06Flags_s)]
theorem spec_l06Segment_x : CtxHolds Try.prog spec_l06Segment_G := ctx_cons spec_l01Below_h (ctx_cons spec_l01Once_h (ctx_cons spec_l01PickInt_h (ctx_cons spec_l01Text_h (ctx_cons spec_l06Flags_h ctx_nil))))
def spec_l06Segment_A : List (Nat × Ann) := []
theorem spec_l06Segment_r (N : Nat) (c : Sl01Cur) (most : Int) : runFM Try.prog spec_l06Segment_G spec_l06Segment_A N Try.f71 spec_l06Segment_s (c.enc ++ (.int most :: ([]))) = spec_l06Segment_t Vm.bad (fun r0 r1 => ((true, SSegment.enc r0 ++ Sl01Cur.enc r1) : Res)) c most := by kernel_rfl
theorem spec_l06Segment_h : HoldsM Try.prog 71 spec_l06Segment_s := by
  refine holdsM_of_run (A := spec_l06Segment_A) spec_l06Segment_x Try.func71 rfl (by kernel_rfl) (of_decide_eq_true (by kernel_rfl)) (of_decide_eq_true (by kernel_rfl)) (by kernel_rfl) (fun ds => by kernel_rfl) ?_
  intro ds hw hok
  replace hw : WtL (Sl01Cur.ct ++ ((.int .i64) :: ([]))) ds := hw
  obtain ⟨c, ds, rfl, h_c, hw⟩ := Sl01Cur.of_wt (r := _) hw
  obtain ⟨most, ds, rfl, h_most, hw⟩ := of_wt_int hw
  obtain rfl := of_wt_nil hw
  exact ⟨0, ((spec_l06Segment_r 0 c most).trans (spec_l06Segment_c Vm.bad _ c most hok)).trans (by kernel_rfl)⟩

def spec_l07Packet_s : Sum := { ps := [⟨[.sl [.int .u8], .int .i64, .int .i64], true⟩, ⟨[.int .i64], false⟩], rs := [⟨[.imm (.int .i64), .imm (.int .i64), .imm (.int .i64), .imm (.int .i64), .imm (.int .i64), .imm (.int .i64), .imm (.int .i64), .imm (.int .i64), .imm (.int .i64), .imm (.int .i64), .imm (.int .i64), .imm (.int .i64), .imm (.int .i64), .imm (.int .i64), .imm (.int .i64), .imm .str], true⟩], fn := fun ds => (l07Packet_ok (Sl01Cur.decAt ds 0) (rI ds 3), SPacket.enc (l07Packet (Sl01Cur.decAt ds 0) (rI ds 3)).1 ++ Sl01Cur.enc (l07Packet (Sl01Cur.decAt ds 0) (rI ds 3)).2), ms := [some (.box 91), none] }
def spec_l07Packet_G : Ctx := [(57, spec_l01Below_s), (59, spec_l01Once_s), (60, spec_l01PickInt_s), (70, spec_l06Host_s), (71, spec_l06Segment_s), (72, spec_l01Text_s)]
theorem spec_l07Packet_x : CtxHolds Try.prog spec_l07Packet_G := ctx_cons spec_l01Below_h (ctx_cons spec_l01Once_h (ctx_cons spec_l01PickInt_h (ctx_cons spec_l06Host_h (ctx_cons spec_l06Segment_h (ctx_cons spec_l01Text_h ctx_nil)))))
def spec_l07Packet_A : List (Nat × Ann) := []
theorem spec_l07Packet_r (N : Nat) (c : Sl01Cur) (most : Int) : runFM Try.prog spec_l07Packet_G spec_l07Packet_A N Try.f58 spec_l07Packet_s (c.enc ++ (.int most :: ([]))) = spec_l07Packet_t Vm.bad (fun r0 r1 => ((true, SPacket.enc r0 ++ Sl01Cur.enc r1) : Res)) c most := by kernel_rfl
theorem spec_l07Packet_h : HoldsM Try.prog 58 spec_l07Packet_s := by
  refine holdsM_of_run (A := spec_l07Packet_A) spec_l07Packet_x Try.func58 rfl (by kernel_rfl) (of_decide_eq_true (by kernel_rfl)) (of_decide_eq_true (by kernel_rfl)) (by kernel_rfl) (fun ds => by kernel_rfl) ?_
  intro ds hw hok
  replace hw : WtL (Sl01Cur.ct ++ ((.int .i64) :: ([]))) ds := hw
  obtain ⟨c, ds, rfl, h_c, hw⟩ := Sl01Cur.of_wt (r := _) hw
  obtain ⟨most, ds, rfl, h_most, hw⟩ := of_wt_int hw
  obtain rfl := of_wt_nil hw
  exact ⟨0, ((spec_l07Packet_r 0 c most).trans (spec_l07Packet_c Vm.bad _ c most hok)).trans (by kernel_rfl)⟩

def spec_l32Ports_s : Sum := { ps := [⟨[.sl [.int .u8], .int .i64, .int .i64], true⟩], rs := [⟨[.own 48 [.int .i64, .sl [.int .i64], .int .i64, .bool]], false⟩], fn := fun ds => (curOk (Sl01Cur.decAt ds 0), [.sl (l32Ports (Sl01Cur.decAt ds 0)).1] ++ Sl01Cur.enc (l32Ports (Sl01Cur.decAt ds 0)).2), ms := [some (.box 91)] }
def spec_l32Ports_G : Ctx := [(57, spec_l01Below_s), (59, spec_l01Once_s)]
theorem spec_l32Ports_x : CtxHolds Try.prog spec_l32Ports_G := ctx_cons spec_l01Below_h (ctx_cons spec_l01Once_h ctx_nil)
def spec_l32Ports_A : List (Nat × Ann) := [(3, { slots := [(0, .asis), (3, .asis), (4, .asis)], boxes := [(320000000, [])] })]
def spec_l32Ports_K : Rows → Sl01Cur → Res := (fun r0 r1 => ((true, [.sl r0] ++ Sl01Cur.enc r1) : Res))
def spec_l32Ports_m0 (k : Int) (b5000000 : Rows) (b5000000_1 : Int) (b5000000_2 : Int) (out_ : Rows) : St := { n := 1099511627825, sl := [(0, .ptr 320000000 0), (3, .own 640192), (4, .int .i64 k)], hp := [(320000000, .box 91 [.sl [.int .u8] b5000000, .int .i64 b5000000_1, .int .i64 b5000000_2]), (640192, .row 48 [.int .i64, .sl [.int .i64], .int .i64, .bool] out_ false true)], ok := true, ls := [], lm := [] }
noncomputable def spec_l32Ports_B0 (N : Nat) : (St → Res) → St → Res := loopBM Try.prog spec_l32Ports_G spec_l32Ports_A N Try.f56 spec_l32Ports_s [true, true, false, true, false] []
theorem spec_l32Ports_b0 (N : Nat) (ih : St → Res) (k : Int) (b5000000 : Rows) (b5000000_1 : Int) (b5000000_2 : Int) (out_ : Rows) : spec_l32Ports_B0 N ih (spec_l32Ports_m0 k b5000000 b5000000_1 b5000000_2 out_) = spec_l32Ports_l0 Vm.bad spec_l32Ports_K (fun k b5000000 b5000000_1 b5000000_2 out_ => ih (spec_l32Ports_m0 k b5000000 b5000000_1 b5000000_2 out_)) k b5000000 b5000000_1 b5000000_2 out_ := by kernel_rfl
theorem spec_l32Ports_n0 (N : Nat) (m_ : Nat) : (fun k b5000000 b5000000_1 b5000000_2 out_ => loopN (spec_l32Ports_B0 N) m_ (spec_l32Ports_m0 k b5000000 b5000000_1 b5000000_2 out_)) = spec_l32Ports_L0 Vm.bad spec_l32Ports_K N m_ := by
  induction m_ with
  | zero => rfl
  | succ m_ ih =>
    funext k b5000000 b5000000_1 b5000000_2 out_
    show spec_l32Ports_B0 N (loopN (spec_l32Ports_B0 N) m_) (spec_l32Ports_m0 k b5000000 b5000000_1 b5000000_2 out_) = _
    rw [spec_l32Ports_b0 N]
    rw [ih]
    rfl
theorem spec_l32Ports_r (N : Nat) (c : Sl01Cur) : runFM Try.prog spec_l32Ports_G spec_l32Ports_A N Try.f56 spec_l32Ports_s (c.enc ++ ([])) = spec_l32Ports_f Vm.bad spec_l32Ports_K N c := by
  have run_ : runFM Try.prog spec_l32Ports_G spec_l32Ports_A N Try.f56 spec_l32Ports_s (c.enc ++ ([])) = spec_l32Ports_t Vm.bad spec_l32Ports_K (fun k b5000000 b5000000_1 b5000000_2 out_ => loopN (spec_l32Ports_B0 N) N (spec_l32Ports_m0 k b5000000 b5000000_1 b5000000_2 out_)) c := by kernel_rfl
  refine run_.trans ?_
  unfold spec_l32Ports_f
  have e0 : (fun k b5000000 b5000000_1 b5000000_2 out_ => loopN (spec_l32Ports_B0 N) N (spec_l32Ports_m0 k b5000000 b5000000_1 b5000000_2 out_)) = (spec_l32Ports_L0 Vm.bad spec_l32Ports_K N N) := by
    exact spec_l32Ports_n0 N N
  exact congrArg (fun l_ => spec_l32Ports_t Vm.bad spec_l32Ports_K l_ c) e0
theorem spec_l32Ports_h : HoldsM Try.prog 56 spec_l32Ports_s := by
  refine holdsM_of_run (A := spec_l32Ports_A) spec_l32Ports_x Try.func56 rfl (by kernel_rfl) (of_decide_eq_true (by kernel_rfl)) (of_decide_eq_true (by kernel_rfl)) (by kernel_rfl) (fun ds => by kernel_rfl) ?_
  intro ds hw hok
  replace hw : WtL (Sl01Cur.ct ++ ([])) ds := hw
  obtain ⟨c, ds, rfl, h_c, hw⟩ := Sl01Cur.of_wt (r := _) hw
  obtain rfl := of_wt_nil hw
  obtain ⟨N, hN⟩ := spec_l32Ports_c Vm.bad spec_l32Ports_K c h_c hok
  exact ⟨N, ((spec_l32Ports_r N c).trans hN).trans (by kernel_rfl)⟩

end
end Go.Proofs.Ytklbgnodgnlebaa.Pl
