/- The contracts of functions of the program: each computes what its plain form says. Conditions: none. -/
import Derived.Test.YtfnkhejoihnlnaaPSx
import Derived.Test.YtfnkhejoihnlnaaRows
import Derived.Test.YtfnkhejoihnlnaaBSw
set_option linter.unusedVariables false
set_option linter.unusedSimpArgs false
set_option maxRecDepth 100000
namespace Go.Proofs.Ytfnkhejoihnlnaa.Pl
open Vm
noncomputable section

def impl_SegmentOk_s : Sum := { ps := [⟨[.int .i64, .int .i64, .int .i64, .int .i64, .int .i64, .int .i64, .int .i64, .str], true⟩], rs := [⟨[.imm .bool], false⟩], fn := fun ds => (true, [.bool (SegmentOk (SSegment.decAt ds 0))]) }
def impl_SegmentOk_G : Ctx := [(68, impl_between_s)]
theorem impl_SegmentOk_x : CtxHolds Try.prog impl_SegmentOk_G := ctx_cons impl_between_h ctx_nil
def impl_SegmentOk_A : List (Nat × Ann) := []
theorem impl_SegmentOk_r (N : Nat) (g : SSegment) : runF Try.prog impl_SegmentOk_G impl_SegmentOk_A N Try.f136 impl_SegmentOk_s (g.enc ++ ([])) = impl_SegmentOk_t (fun r0 => ((true, [.bool r0]) : Res)) g := by kernel_rfl
theorem impl_SegmentOk_h : Holds Try.prog 136 impl_SegmentOk_s := by
  refine holds_of_run (A := impl_SegmentOk_A) impl_SegmentOk_x Try.func136 rfl (by kernel_rfl) (of_decide_eq_true (by kernel_rfl)) (of_decide_eq_true (by kernel_rfl)) ?_
  intro ds hw hok
  replace hw : WtL (SSegment.ct ++ ([])) ds := hw
  obtain ⟨g, ds, rfl, h_g, hw⟩ := SSegment.of_wt (r := _) hw
  obtain rfl := of_wt_nil hw
  exact ⟨0, ((impl_SegmentOk_r 0 g).trans (impl_SegmentOk_c _ g)).trans (by kernel_rfl)⟩

def spec_SegmentOk_s : Sum := { ps := [⟨[.int .i64, .int .i64, .int .i64, .int .i64, .int .i64, .int .i64, .int .i64, .str], true⟩], rs := [⟨[.imm .bool], false⟩], fn := fun ds => (true, [.bool (SegmentOk (SSegment.decAt ds 0))]) }
def spec_SegmentOk_G : Ctx := [(64, spec_l01In_s)]
theorem spec_SegmentOk_x : CtxHolds Try.prog spec_SegmentOk_G := ctx_cons spec_l01In_h ctx_nil
def spec_SegmentOk_A : List (Nat × Ann) := []
theorem spec_SegmentOk_r (N : Nat) (g : SSegment) : runF Try.prog spec_SegmentOk_G spec_SegmentOk_A N Try.f120 spec_SegmentOk_s (g.enc ++ ([])) = spec_SegmentOk_t (fun r0 => ((true, [.bool r0]) : Res)) g := by kernel_rfl
theorem spec_SegmentOk_h : Holds Try.prog 120 spec_SegmentOk_s := by
  refine holds_of_run (A := spec_SegmentOk_A) spec_SegmentOk_x Try.func120 rfl (by kernel_rfl) (of_decide_eq_true (by kernel_rfl)) (of_decide_eq_true (by kernel_rfl)) ?_
  intro ds hw hok
  replace hw : WtL (SSegment.ct ++ ([])) ds := hw
  obtain ⟨g, ds, rfl, h_g, hw⟩ := SSegment.of_wt (r := _) hw
  obtain rfl := of_wt_nil hw
  exact ⟨0, ((spec_SegmentOk_r 0 g).trans (spec_SegmentOk_c _ g h_g)).trans (by kernel_rfl)⟩

def impl_streaming_s : Sum := { ps := [⟨[.int .i64], false⟩], rs := [⟨[.imm .bool], false⟩], fn := fun ds => (true, [.bool (streaming (rI ds 0))]) }
def impl_streaming_G : Ctx := []
theorem impl_streaming_x : CtxHolds Try.prog impl_streaming_G := ctx_nil
def impl_streaming_A : List (Nat × Ann) := []
theorem impl_streaming_r (N : Nat) (flags : Int) : runF Try.prog impl_streaming_G impl_streaming_A N Try.f137 impl_streaming_s (.int flags :: ([])) = impl_streaming_t (fun r0 => ((true, [.bool r0]) : Res)) flags := by kernel_rfl
theorem impl_streaming_h : Holds Try.prog 137 impl_streaming_s := by
  refine holds_of_run (A := impl_streaming_A) impl_streaming_x Try.func137 rfl (by kernel_rfl) (of_decide_eq_true (by kernel_rfl)) (of_decide_eq_true (by kernel_rfl)) ?_
  intro ds hw hok
  replace hw : WtL ((.int .i64) :: ([])) ds := hw
  obtain ⟨flags, ds, rfl, h_flags, hw⟩ := of_wt_int hw
  obtain rfl := of_wt_nil hw
  exact ⟨0, ((impl_streaming_r 0 flags).trans (impl_streaming_c _ flags)).trans (by kernel_rfl)⟩

def impl_SuperOk_s : Sum := { ps := [⟨[.int .i64, .int .i64, .int .i64, .int .i64, .int .i64, .int .i64, .int .i64, .int .i64, .int .i64, .int .i64, .int .i64, .int .i64, .int .i64, .int .i64, .int .i64, .str], true⟩], rs := [⟨[.imm .bool], false⟩], fn := fun ds => (true, [.bool (SuperOk (SPacket.decAt ds 0))]) }
def impl_SuperOk_G : Ctx := [(68, impl_between_s), (136, impl_SegmentOk_s), (137, impl_streaming_s)]
theorem impl_SuperOk_x : CtxHolds Try.prog impl_SuperOk_G := ctx_cons impl_between_h (ctx_cons impl_SegmentOk_h (ctx_cons impl_streaming_h ctx_nil))
def impl_SuperOk_A : List (Nat × Ann) := []
theorem impl_SuperOk_r (N : Nat) (p : SPacket) : runF Try.prog impl_SuperOk_G impl_SuperOk_A N Try.f115 impl_SuperOk_s (p.enc ++ ([])) = impl_SuperOk_t (fun r0 => ((true, [.bool r0]) : Res)) p := by kernel_rfl
theorem impl_SuperOk_h : Holds Try.prog 115 impl_SuperOk_s := by
  refine holds_of_run (A := impl_SuperOk_A) impl_SuperOk_x Try.func115 rfl (by kernel_rfl) (of_decide_eq_true (by kernel_rfl)) (of_decide_eq_true (by kernel_rfl)) ?_
  intro ds hw hok
  replace hw : WtL (SPacket.ct ++ ([])) ds := hw
  obtain ⟨p, ds, rfl, h_p, hw⟩ := SPacket.of_wt (r := _) hw
  obtain rfl := of_wt_nil hw
  exact ⟨0, ((impl_SuperOk_r 0 p).trans (impl_SuperOk_c _ p)).trans (by kernel_rfl)⟩

def spec_SuperOk_s : Sum := { ps := [⟨[.int .i64, .int .i64, .int .i64, .int .i64, .int .i64, .int .i64, .int .i64, .int .i64, .int .i64, .int .i64, .int .i64, .int .i64, .int .i64, .int .i64, .int .i64, .str], true⟩], rs := [⟨[.imm .bool], false⟩], fn := fun ds => (true, [.bool (SuperOk (SPacket.decAt ds 0))]) }
def spec_SuperOk_G : Ctx := [(64, spec_l01In_s), (120, spec_SegmentOk_s)]
theorem spec_SuperOk_x : CtxHolds Try.prog spec_SuperOk_G := ctx_cons spec_l01In_h (ctx_cons spec_SegmentOk_h ctx_nil)
def spec_SuperOk_A : List (Nat × Ann) := []
theorem spec_SuperOk_r (N : Nat) (p : SPacket) : runF Try.prog spec_SuperOk_G spec_SuperOk_A N Try.f85 spec_SuperOk_s (p.enc ++ ([])) = spec_SuperOk_t (fun r0 => ((true, [.bool r0]) : Res)) p := by kernel_rfl
theorem spec_SuperOk_h : Holds Try.prog 85 spec_SuperOk_s := by
  refine holds_of_run (A := spec_SuperOk_A) spec_SuperOk_x Try.func85 rfl (by kernel_rfl) (of_decide_eq_true (by kernel_rfl)) (of_decide_eq_true (by kernel_rfl)) ?_
  intro ds hw hok
  replace hw : WtL (SPacket.ct ++ ([])) ds := hw
  obtain ⟨p, ds, rfl, h_p, hw⟩ := SPacket.of_wt (r := _) hw
  obtain rfl := of_wt_nil hw
  exact ⟨0, ((spec_SuperOk_r 0 p).trans (spec_SuperOk_c _ p h_p)).trans (by kernel_rfl)⟩

def impl_EntryVlan_s : Sum := { ps := [⟨[.sl [.int .i64, .sl [.int .i64], .int .i64, .bool]], false⟩, ⟨[.int .i64], false⟩, ⟨[.int .i64, .int .i64, .int .i64, .int .i64, .int .i64, .int .i64, .int .i64, .int .i64, .int .i64, .int .i64, .int .i64, .int .i64, .int .i64, .int .i64, .int .i64, .str], true⟩], rs := [⟨[.imm (.int .i64)], false⟩], fn := fun ds => (true, [.int (EntryVlan (rR ds 0) (rI ds 1) (SPacket.decAt ds 2))]) }
def impl_EntryVlan_G : Ctx := [(67, impl_PortsOk_s), (68, impl_between_s), (103, impl_hasInt_s), (115, impl_SuperOk_s)]
theorem impl_EntryVlan_x : CtxHolds Try.prog impl_EntryVlan_G := ctx_cons impl_PortsOk_h (ctx_cons impl_between_h (ctx_cons impl_hasInt_h (ctx_cons impl_SuperOk_h ctx_nil)))
def impl_EntryVlan_A : List (Nat × Ann) := []
theorem impl_EntryVlan_r (N : Nat) (list_ : Rows) (from_ : Int) (p : SPacket) : runF Try.prog impl_EntryVlan_G impl_EntryVlan_A N Try.f83 impl_EntryVlan_s (.sl list_ :: (.int from_ :: (p.enc ++ ([])))) = impl_EntryVlan_t Vm.bad (fun r0 => ((true, [.int r0]) : Res)) list_ from_ p := by kernel_rfl
theorem impl_EntryVlan_h : Holds Try.prog 83 impl_EntryVlan_s := by
  refine holds_of_run (A := impl_EntryVlan_A) impl_EntryVlan_x Try.func83 rfl (by kernel_rfl) (of_decide_eq_true (by kernel_rfl)) (of_decide_eq_true (by kernel_rfl)) ?_
  intro ds hw hok
  replace hw : WtL ((.sl [.int .i64, .sl [.int .i64], .int .i64, .bool]) :: ((.int .i64) :: (SPacket.ct ++ ([])))) ds := hw
  obtain ⟨list_, ds, rfl, h_list_, hw⟩ := of_wt_sl hw
  obtain ⟨from_, ds, rfl, h_from_, hw⟩ := of_wt_int hw
  obtain ⟨p, ds, rfl, h_p, hw⟩ := SPacket.of_wt (r := _) hw
  obtain rfl := of_wt_nil hw
  exact ⟨0, ((impl_EntryVlan_r 0 list_ from_ p).trans (impl_EntryVlan_c Vm.bad _ list_ from_ p h_list_ h_from_ h_p)).trans (by kernel_rfl)⟩

def spec_EntryVlan_s : Sum := { ps := [⟨[.sl [.int .i64, .sl [.int .i64], .int .i64, .bool]], false⟩, ⟨[.int .i64], false⟩, ⟨[.int .i64, .int .i64, .int .i64, .int .i64, .int .i64, .int .i64, .int .i64, .int .i64, .int .i64, .int .i64, .int .i64, .int .i64, .int .i64, .int .i64, .int .i64, .str], true⟩], rs := [⟨[.imm (.int .i64)], false⟩], fn := fun ds => (true, [.int (EntryVlan (rR ds 0) (rI ds 1) (SPacket.decAt ds 2))]) }
def spec_EntryVlan_G : Ctx := [(59, spec_l24Has_s), (63, spec_PortsOk_s), (64, spec_l01In_s), (85, spec_SuperOk_s)]
theorem spec_EntryVlan_x : CtxHolds Try.prog spec_EntryVlan_G := ctx_cons spec_l24Has_h (ctx_cons spec_PortsOk_h (ctx_cons spec_l01In_h (ctx_cons spec_SuperOk_h ctx_nil)))
def spec_EntryVlan_A : List (Nat × Ann) := []
theorem spec_EntryVlan_r (N : Nat) (list_ : Rows) (from_ : Int) (p : SPacket) : runF Try.prog spec_EntryVlan_G spec_EntryVlan_A N Try.f93 spec_EntryVlan_s (.sl list_ :: (.int from_ :: (p.enc ++ ([])))) = spec_EntryVlan_t Vm.bad (fun r0 => ((true, [.int r0]) : Res)) list_ from_ p := by kernel_rfl
theorem spec_EntryVlan_h : Holds Try.prog 93 spec_EntryVlan_s := by
  refine holds_of_run (A := spec_EntryVlan_A) spec_EntryVlan_x Try.func93 rfl (by kernel_rfl) (of_decide_eq_true (by kernel_rfl)) (of_decide_eq_true (by kernel_rfl)) ?_
  intro ds hw hok
  replace hw : WtL ((.sl [.int .i64, .sl [.int .i64], .int .i64, .bool]) :: ((.int .i64) :: (SPacket.ct ++ ([])))) ds := hw
  obtain ⟨list_, ds, rfl, h_list_, hw⟩ := of_wt_sl hw
  obtain ⟨from_, ds, rfl, h_from_, hw⟩ := of_wt_int hw
  obtain ⟨p, ds, rfl, h_p, hw⟩ := SPacket.of_wt (r := _) hw
  obtain rfl := of_wt_nil hw
  exact ⟨0, ((spec_EntryVlan_r 0 list_ from_ p).trans (spec_EntryVlan_c Vm.bad _ list_ from_ p h_list_ h_from_ h_p)).trans (by kernel_rfl)⟩

end
end Go.Proofs.Ytfnkhejoihnlnaa.Pl
