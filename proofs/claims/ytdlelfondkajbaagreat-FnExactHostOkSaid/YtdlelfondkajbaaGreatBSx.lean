/- The contracts of functions of the program: each computes what its plain form says. Conditions: none. -/
import Derived.Test.YtdlelfondkajbaaGreatPSx
import Derived.Test.YtdlelfondkajbaaGreatRows
import Derived.Test.YtdlelfondkajbaaGreatBBa
set_option linter.unusedVariables false
set_option linter.unusedSimpArgs false
set_option maxRecDepth 100000
namespace Go.Proofs.YtdlelfondkajbaaGreat.Pl
open Vm
noncomputable section

def impl_SegmentOk_s : Sum := { ps := [⟨[.int .i64, .int .i64, .int .i64, .int .i64, .int .i64, .int .i64, .int .i64, .str], true⟩], rs := [⟨[.imm .bool], false⟩], fn := fun ds => (true, [.bool (SegmentOk (SSegment.decAt ds 0))]) }
def impl_SegmentOk_G : Ctx := [(82, impl_between_s)]
theorem impl_SegmentOk_x : CtxHolds Tryz.prog impl_SegmentOk_G := ctx_cons impl_between_h ctx_nil
def impl_SegmentOk_A : List (Nat × Ann) := []
theorem impl_SegmentOk_r (N : Nat) (g : SSegment) : runF Tryz.prog impl_SegmentOk_G impl_SegmentOk_A N Tryz.f206 impl_SegmentOk_s (g.enc ++ ([])) = impl_SegmentOk_t (fun r0 => ((true, [.bool r0]) : Res)) g := by kernel_rfl
theorem impl_SegmentOk_h : Holds Tryz.prog 206 impl_SegmentOk_s := by
  refine holds_of_run (A := impl_SegmentOk_A) impl_SegmentOk_x Tryz.func206 rfl (by kernel_rfl) (of_decide_eq_true (by kernel_rfl)) (of_decide_eq_true (by kernel_rfl)) ?_
  intro ds hw hok
  replace hw : WtL (SSegment.ct ++ ([])) ds := hw
  obtain ⟨g, ds, rfl, h_g, hw⟩ := SSegment.of_wt (r := _) hw
  obtain rfl := of_wt_nil hw
  exact ⟨0, ((impl_SegmentOk_r 0 g).trans (impl_SegmentOk_c _ g)).trans (by kernel_rfl)⟩

def spec_SegmentOk_s : Sum := { ps := [⟨[.int .i64, .int .i64, .int .i64, .int .i64, .int .i64, .int .i64, .int .i64, .str], true⟩], rs := [⟨[.imm .bool], false⟩], fn := fun ds => (true, [.bool (SegmentOk (SSegment.decAt ds 0))]) }
def spec_SegmentOk_G : Ctx := [(73, spec_l01In_s)]
theorem spec_SegmentOk_x : CtxHolds Tryz.prog spec_SegmentOk_G := ctx_cons spec_l01In_h ctx_nil
def spec_SegmentOk_A : List (Nat × Ann) := []
theorem spec_SegmentOk_r (N : Nat) (g : SSegment) : runF Tryz.prog spec_SegmentOk_G spec_SegmentOk_A N Tryz.f203 spec_SegmentOk_s (g.enc ++ ([])) = spec_SegmentOk_t (fun r0 => ((true, [.bool r0]) : Res)) g := by kernel_rfl
theorem spec_SegmentOk_h : Holds Tryz.prog 203 spec_SegmentOk_s := by
  refine holds_of_run (A := spec_SegmentOk_A) spec_SegmentOk_x Tryz.func203 rfl (by kernel_rfl) (of_decide_eq_true (by kernel_rfl)) (of_decide_eq_true (by kernel_rfl)) ?_
  intro ds hw hok
  replace hw : WtL (SSegment.ct ++ ([])) ds := hw
  obtain ⟨g, ds, rfl, h_g, hw⟩ := SSegment.of_wt (r := _) hw
  obtain rfl := of_wt_nil hw
  exact ⟨0, ((spec_SegmentOk_r 0 g).trans (spec_SegmentOk_c _ g h_g)).trans (by kernel_rfl)⟩

def impl_streaming_s : Sum := { ps := [⟨[.int .i64], false⟩], rs := [⟨[.imm .bool], false⟩], fn := fun ds => (true, [.bool (streaming (rI ds 0))]) }
def impl_streaming_G : Ctx := []
theorem impl_streaming_x : CtxHolds Tryz.prog impl_streaming_G := ctx_nil
def impl_streaming_A : List (Nat × Ann) := []
theorem impl_streaming_r (N : Nat) (flags : Int) : runF Tryz.prog impl_streaming_G impl_streaming_A N Tryz.f207 impl_streaming_s (.int flags :: ([])) = impl_streaming_t (fun r0 => ((true, [.bool r0]) : Res)) flags := by kernel_rfl
theorem impl_streaming_h : Holds Tryz.prog 207 impl_streaming_s := by
  refine holds_of_run (A := impl_streaming_A) impl_streaming_x Tryz.func207 rfl (by kernel_rfl) (of_decide_eq_true (by kernel_rfl)) (of_decide_eq_true (by kernel_rfl)) ?_
  intro ds hw hok
  replace hw : WtL ((.int .i64) :: ([])) ds := hw
  obtain ⟨flags, ds, rfl, h_flags, hw⟩ := of_wt_int hw
  obtain rfl := of_wt_nil hw
  exact ⟨0, ((impl_streaming_r 0 flags).trans (impl_streaming_c _ flags)).trans (by kernel_rfl)⟩

def impl_SuperOk_s : Sum := { ps := [⟨[.int .i64, .int .i64, .int .i64, .int .i64, .int .i64, .int .i64, .int .i64, .int .i64, .int .i64, .int .i64, .int .i64, .int .i64, .int .i64, .int .i64, .int .i64, .str], true⟩], rs := [⟨[.imm .bool], false⟩], fn := fun ds => (true, [.bool (SuperOk (SPacket.decAt ds 0))]) }
def impl_SuperOk_G : Ctx := [(82, impl_between_s), (206, impl_SegmentOk_s), (207, impl_streaming_s)]
theorem impl_SuperOk_x : CtxHolds Tryz.prog impl_SuperOk_G := ctx_cons impl_between_h (ctx_cons impl_SegmentOk_h (ctx_cons impl_streaming_h ctx_nil))
def impl_SuperOk_A : List (Nat × Ann) := []
theorem impl_SuperOk_r (N : Nat) (p : SPacket) : runF Tryz.prog impl_SuperOk_G impl_SuperOk_A N Tryz.f156 impl_SuperOk_s (p.enc ++ ([])) = impl_SuperOk_t (fun r0 => ((true, [.bool r0]) : Res)) p := by kernel_rfl
theorem impl_SuperOk_h : Holds Tryz.prog 156 impl_SuperOk_s := by
  refine holds_of_run (A := impl_SuperOk_A) impl_SuperOk_x Tryz.func156 rfl (by kernel_rfl) (of_decide_eq_true (by kernel_rfl)) (of_decide_eq_true (by kernel_rfl)) ?_
  intro ds hw hok
  replace hw : WtL (SPacket.ct ++ ([])) ds := hw
  obtain ⟨p, ds, rfl, h_p, hw⟩ := SPacket.of_wt (r := _) hw
  obtain rfl := of_wt_nil hw
  exact ⟨0, ((impl_SuperOk_r 0 p).trans (impl_SuperOk_c _ p)).trans (by kernel_rfl)⟩

def spec_SuperOk_s : Sum := { ps := [⟨[.int .i64, .int .i64, .int .i64, .int .i64, .int .i64, .int .i64, .int .i64, .int .i64, .int .i64, .int .i64, .int .i64, .int .i64, .int .i64, .int .i64, .int .i64, .str], true⟩], rs := [⟨[.imm .bool], false⟩], fn := fun ds => (true, [.bool (SuperOk (SPacket.decAt ds 0))]) }
def spec_SuperOk_G : Ctx := [(73, spec_l01In_s), (203, spec_SegmentOk_s)]
theorem spec_SuperOk_x : CtxHolds Tryz.prog spec_SuperOk_G := ctx_cons spec_l01In_h (ctx_cons spec_SegmentOk_h ctx_nil)
def spec_SuperOk_A : List (Nat × Ann) := []
theorem spec_SuperOk_r (N : Nat) (p : SPacket) : runF Tryz.prog spec_SuperOk_G spec_SuperOk_A N Tryz.f150 spec_SuperOk_s (p.enc ++ ([])) = spec_SuperOk_t (fun r0 => ((true, [.bool r0]) : Res)) p := by kernel_rfl
theorem spec_SuperOk_h : Holds Tryz.prog 150 spec_SuperOk_s := by
  refine holds_of_run (A := spec_SuperOk_A) spec_SuperOk_x Tryz.func150 rfl (by kernel_rfl) (of_decide_eq_true (by kernel_rfl)) (of_decide_eq_true (by kernel_rfl)) ?_
  intro ds hw hok
  replace hw : WtL (SPacket.ct ++ ([])) ds := hw
  obtain ⟨p, ds, rfl, h_p, hw⟩ := SPacket.of_wt (r := _) hw
  obtain rfl := of_wt_nil hw
  exact ⟨0, ((spec_SuperOk_r 0 p).trans (spec_SuperOk_c _ p h_p)).trans (by kernel_rfl)⟩

end
end Go.Proofs.YtdlelfondkajbaaGreat.Pl
