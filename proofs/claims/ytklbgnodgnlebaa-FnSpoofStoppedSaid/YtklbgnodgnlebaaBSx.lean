/- The contracts of functions of the program: each computes what its plain form says. Conditions: none. -/
import Derived.Test.YtklbgnodgnlebaaPSx
import Derived.Test.YtklbgnodgnlebaaRows
import Derived.Test.YtklbgnodgnlebaaBSw
set_option linter.unusedVariables false
set_option linter.unusedSimpArgs false
set_option maxRecDepth 100000
namespace Go.Proofs.Ytklbgnodgnlebaa.Pl
open Vm
noncomputable section

def impl_SegmentOk_s : Sum := { ps := [⟨[.int .i64, .int .i64, .int .i64, .int .i64, .int .i64, .int .i64, .int .i64, .str], true⟩], rs := [⟨[.imm .bool], false⟩], fn := fun ds => (true, [.bool (SegmentOk (SSegment.decAt ds 0))]) }
def impl_SegmentOk_G : Ctx := [(45, impl_between_s)]
theorem impl_SegmentOk_x : CtxHolds Try.prog impl_SegmentOk_G := ctx_cons impl_between_h ctx_nil
def impl_SegmentOk_A : List (Nat × Ann) := []
theorem impl_SegmentOk_r (N : Nat) (g : SSegment) : runF Try.prog impl_SegmentOk_G impl_SegmentOk_A N Try.f67 impl_SegmentOk_s (g.enc ++ ([])) = impl_SegmentOk_t (fun r0 => ((true, [.bool r0]) : Res)) g := by kernel_rfl
theorem impl_SegmentOk_h : Holds Try.prog 67 impl_SegmentOk_s := by
  refine holds_of_run (A := impl_SegmentOk_A) impl_SegmentOk_x Try.func67 rfl (by kernel_rfl) (of_decide_eq_true (by kernel_rfl)) (of_decide_eq_true (by kernel_rfl)) ?_
  intro ds hw hok
  replace hw : WtL (SSegment.ct ++ ([])) ds := hw
  obtain ⟨g, ds, rfl, h_g, hw⟩ := SSegment.of_wt (r := _) hw
  obtain rfl := of_wt_nil hw
  exact ⟨0, ((impl_SegmentOk_r 0 g).trans (impl_SegmentOk_c _ g)).trans (by kernel_rfl)⟩

def spec_SegmentOk_s : Sum := { ps := [⟨[.int .i64, .int .i64, .int .i64, .int .i64, .int .i64, .int .i64, .int .i64, .str], true⟩], rs := [⟨[.imm .bool], false⟩], fn := fun ds => (true, [.bool (SegmentOk (SSegment.decAt ds 0))]) }
def spec_SegmentOk_G : Ctx := [(41, spec_l01In_s)]
theorem spec_SegmentOk_x : CtxHolds Try.prog spec_SegmentOk_G := ctx_cons spec_l01In_h ctx_nil
def spec_SegmentOk_A : List (Nat × Ann) := []
theorem spec_SegmentOk_r (N : Nat) (g : SSegment) : runF Try.prog spec_SegmentOk_G spec_SegmentOk_A N Try.f66 spec_SegmentOk_s (g.enc ++ ([])) = spec_SegmentOk_t (fun r0 => ((true, [.bool r0]) : Res)) g := by kernel_rfl
theorem spec_SegmentOk_h : Holds Try.prog 66 spec_SegmentOk_s := by
  refine holds_of_run (A := spec_SegmentOk_A) spec_SegmentOk_x Try.func66 rfl (by kernel_rfl) (of_decide_eq_true (by kernel_rfl)) (of_decide_eq_true (by kernel_rfl)) ?_
  intro ds hw hok
  replace hw : WtL (SSegment.ct ++ ([])) ds := hw
  obtain ⟨g, ds, rfl, h_g, hw⟩ := SSegment.of_wt (r := _) hw
  obtain rfl := of_wt_nil hw
  exact ⟨0, ((spec_SegmentOk_r 0 g).trans (spec_SegmentOk_c _ g h_g)).trans (by kernel_rfl)⟩

def impl_streaming_s : Sum := { ps := [⟨[.int .i64], false⟩], rs := [⟨[.imm .bool], false⟩], fn := fun ds => (true, [.bool (streaming (rI ds 0))]) }
def impl_streaming_G : Ctx := []
theorem impl_streaming_x : CtxHolds Try.prog impl_streaming_G := ctx_nil
def impl_streaming_A : List (Nat × Ann) := []
theorem impl_streaming_r (N : Nat) (flags : Int) : runF Try.prog impl_streaming_G impl_streaming_A N Try.f68 impl_streaming_s (.int flags :: ([])) = impl_streaming_t (fun r0 => ((true, [.bool r0]) : Res)) flags := by kernel_rfl
theorem impl_streaming_h : Holds Try.prog 68 impl_streaming_s := by
  refine holds_of_run (A := impl_streaming_A) impl_streaming_x Try.func68 rfl (by kernel_rfl) (of_decide_eq_true (by kernel_rfl)) (of_decide_eq_true (by kernel_rfl)) ?_
  intro ds hw hok
  replace hw : WtL ((.int .i64) :: ([])) ds := hw
  obtain ⟨flags, ds, rfl, h_flags, hw⟩ := of_wt_int hw
  obtain rfl := of_wt_nil hw
  exact ⟨0, ((impl_streaming_r 0 flags).trans (impl_streaming_c _ flags)).trans (by kernel_rfl)⟩

def impl_SuperOk_s : Sum := { ps := [⟨[.int .i64, .int .i64, .int .i64, .int .i64, .int .i64, .int .i64, .int .i64, .int .i64, .int .i64, .int .i64, .int .i64, .int .i64, .int .i64, .int .i64, .int .i64, .str], true⟩], rs := [⟨[.imm .bool], false⟩], fn := fun ds => (true, [.bool (SuperOk (SPacket.decAt ds 0))]) }
def impl_SuperOk_G : Ctx := [(45, impl_between_s), (67, impl_SegmentOk_s), (68, impl_streaming_s)]
theorem impl_SuperOk_x : CtxHolds Try.prog impl_SuperOk_G := ctx_cons impl_between_h (ctx_cons impl_SegmentOk_h (ctx_cons impl_streaming_h ctx_nil))
def impl_SuperOk_A : List (Nat × Ann) := []
theorem impl_SuperOk_r (N : Nat) (p : SPacket) : runF Try.prog impl_SuperOk_G impl_SuperOk_A N Try.f54 impl_SuperOk_s (p.enc ++ ([])) = impl_SuperOk_t (fun r0 => ((true, [.bool r0]) : Res)) p := by kernel_rfl
theorem impl_SuperOk_h : Holds Try.prog 54 impl_SuperOk_s := by
  refine holds_of_run (A := impl_SuperOk_A) impl_SuperOk_x Try.func54 rfl (by kernel_rfl) (of_decide_eq_true (by kernel_rfl)) (of_decide_eq_true (by kernel_rfl)) ?_
  intro ds hw hok
  replace hw : WtL (SPacket.ct ++ ([])) ds := hw
  obtain ⟨p, ds, rfl, h_p, hw⟩ := SPacket.of_wt (r := _) hw
  obtain rfl := of_wt_nil hw
  exact ⟨0, ((impl_SuperOk_r 0 p).trans (impl_SuperOk_c _ p)).trans (by kernel_rfl)⟩

def spec_SuperOk_s : Sum := { ps := [⟨[.int .i64, .int .i64, .int .i64, .int .i64, .int .i64, .int .i64, .int .i64, .int .i64, .int .i64, .int .i64, .int .i64, .int .i64, .int .i64, .int .i64, .int .i64, .str], true⟩], rs := [⟨[.imm .bool], false⟩], fn := fun ds => (true, [.bool (SuperOk (SPacket.decAt ds 0))]) }
def spec_SuperOk_G : Ctx := [(41, spec_l01In_s), (66, spec_SegmentOk_s)]
theorem spec_SuperOk_x : CtxHolds Try.prog spec_SuperOk_G := ctx_cons spec_l01In_h (ctx_cons spec_SegmentOk_h ctx_nil)
def spec_SuperOk_A : List (Nat × Ann) := []
theorem spec_SuperOk_r (N : Nat) (p : SPacket) : runF Try.prog spec_SuperOk_G spec_SuperOk_A N Try.f52 spec_SuperOk_s (p.enc ++ ([])) = spec_SuperOk_t (fun r0 => ((true, [.bool r0]) : Res)) p := by kernel_rfl
theorem spec_SuperOk_h : Holds Try.prog 52 spec_SuperOk_s := by
  refine holds_of_run (A := spec_SuperOk_A) spec_SuperOk_x Try.func52 rfl (by kernel_rfl) (of_decide_eq_true (by kernel_rfl)) (of_decide_eq_true (by kernel_rfl)) ?_
  intro ds hw hok
  replace hw : WtL (SPacket.ct ++ ([])) ds := hw
  obtain ⟨p, ds, rfl, h_p, hw⟩ := SPacket.of_wt (r := _) hw
  obtain rfl := of_wt_nil hw
  exact ⟨0, ((spec_SuperOk_r 0 p).trans (spec_SuperOk_c _ p h_p)).trans (by kernel_rfl)⟩

def impl_EntryVlan_s : Sum := { ps := [⟨[.sl [.int .i64, .sl [.int .i64], .int .i64, .bool]], false⟩, ⟨[.int .i64], false⟩, ⟨[.int .i64, .int .i64, .int .i64, .int .i64, .int .i64, .int .i64, .int .i64, .int .i64, .int .i64, .int .i64, .int .i64, .int .i64, .int .i64, .int .i64, .int .i64, .str], true⟩], rs := [⟨[.imm (.int .i64)], false⟩], fn := fun ds => (true, [.int (EntryVlan (rR ds 0) (rI ds 1) (SPacket.decAt ds 2))]) }
def impl_EntryVlan_G : Ctx := [(13, impl_PortsOk_s), (45, impl_between_s), (48, impl_hasInt_s), (54, impl_SuperOk_s)]
theorem impl_EntryVlan_x : CtxHolds Try.prog impl_EntryVlan_G := ctx_cons impl_PortsOk_h (ctx_cons impl_between_h (ctx_cons impl_hasInt_h (ctx_cons impl_SuperOk_h ctx_nil)))
def impl_EntryVlan_A : List (Nat × Ann) := []
theorem impl_EntryVlan_r (N : Nat) (list_ : Rows) (from_ : Int) (p : SPacket) : runF Try.prog impl_EntryVlan_G impl_EntryVlan_A N Try.f18 impl_EntryVlan_s (.sl list_ :: (.int from_ :: (p.enc ++ ([])))) = impl_EntryVlan_t Vm.bad (fun r0 => ((true, [.int r0]) : Res)) list_ from_ p := by kernel_rfl
theorem impl_EntryVlan_h : Holds Try.prog 18 impl_EntryVlan_s := by
  refine holds_of_run (A := impl_EntryVlan_A) impl_EntryVlan_x Try.func18 rfl (by kernel_rfl) (of_decide_eq_true (by kernel_rfl)) (of_decide_eq_true (by kernel_rfl)) ?_
  intro ds hw hok
  replace hw : WtL ((.sl [.int .i64, .sl [.int .i64], .int .i64, .bool]) :: ((.int .i64) :: (SPacket.ct ++ ([])))) ds := hw
  obtain ⟨list_, ds, rfl, h_list_, hw⟩ := of_wt_sl hw
  obtain ⟨from_, ds, rfl, h_from_, hw⟩ := of_wt_int hw
  obtain ⟨p, ds, rfl, h_p, hw⟩ := SPacket.of_wt (r := _) hw
  obtain rfl := of_wt_nil hw
  exact ⟨0, ((impl_EntryVlan_r 0 list_ from_ p).trans (impl_EntryVlan_c Vm.bad _ list_ from_ p h_list_ h_from_ h_p)).trans (by kernel_rfl)⟩

def spec_EntryVlan_s : Sum := { ps := [⟨[.sl [.int .i64, .sl [.int .i64], .int .i64, .bool]], false⟩, ⟨[.int .i64], false⟩, ⟨[.int .i64, .int .i64, .int .i64, .int .i64, .int .i64, .int .i64, .int .i64, .int .i64, .int .i64, .int .i64, .int .i64, .int .i64, .int .i64, .int .i64, .int .i64, .str], true⟩], rs := [⟨[.imm (.int .i64)], false⟩], fn := fun ds => (true, [.int (EntryVlan (rR ds 0) (rI ds 1) (SPacket.decAt ds 2))]) }
def spec_EntryVlan_G : Ctx := [(11, spec_PortsOk_s), (41, spec_l01In_s), (43, spec_l24Has_s), (52, spec_SuperOk_s)]
theorem spec_EntryVlan_x : CtxHolds Try.prog spec_EntryVlan_G := ctx_cons spec_PortsOk_h (ctx_cons spec_l01In_h (ctx_cons spec_l24Has_h (ctx_cons spec_SuperOk_h ctx_nil)))
def spec_EntryVlan_A : List (Nat × Ann) := []
theorem spec_EntryVlan_r (N : Nat) (list_ : Rows) (from_ : Int) (p : SPacket) : runF Try.prog spec_EntryVlan_G spec_EntryVlan_A N Try.f16 spec_EntryVlan_s (.sl list_ :: (.int from_ :: (p.enc ++ ([])))) = spec_EntryVlan_t Vm.bad (fun r0 => ((true, [.int r0]) : Res)) list_ from_ p := by kernel_rfl
theorem spec_EntryVlan_h : Holds Try.prog 16 spec_EntryVlan_s := by
  refine holds_of_run (A := spec_EntryVlan_A) spec_EntryVlan_x Try.func16 rfl (by kernel_rfl) (of_decide_eq_true (by kernel_rfl)) (of_decide_eq_true (by kernel_rfl)) ?_
  intro ds hw hok
  replace hw : WtL ((.sl [.int .i64, .sl [.int .i64], .int .i64, .bool]) :: ((.int .i64) :: (SPacket.ct ++ ([])))) ds := hw
  obtain ⟨list_, ds, rfl, h_list_, hw⟩ := of_wt_sl hw
  obtain ⟨from_, ds, rfl, h_from_, hw⟩ := of_wt_int hw
  obtain ⟨p, ds, rfl, h_p, hw⟩ := SPacket.of_wt (r := _) hw
  obtain rfl := of_wt_nil hw
  exact ⟨0, ((spec_EntryVlan_r 0 list_ from_ p).trans (spec_EntryVlan_c Vm.bad _ list_ from_ p h_list_ h_from_ h_p)).trans (by kernel_rfl)⟩

def laws_FnExactEntryVlan_s : Sum := { ps := [⟨[.sl [.int .i64, .sl [.int .i64], .int .i64, .bool]], false⟩, ⟨[.int .i64], false⟩, ⟨[.int .i64, .int .i64, .int .i64, .int .i64, .int .i64, .int .i64, .int .i64, .int .i64, .int .i64, .int .i64, .int .i64, .int .i64, .int .i64, .int .i64, .int .i64, .str], true⟩], rs := [⟨[.imm .bool], false⟩], fn := fun ds => (fitL ((.sl [.int .i64, .sl [.int .i64], .int .i64, .bool]) :: ((.int .i64) :: (SPacket.ct ++ ([])))) ds, [.bool true]) }
def laws_FnExactEntryVlan_G : Ctx := [(10, laws_szPortS_s), (12, laws_toPortS_s), (14, laws_eqPortS_s), (15, laws_szPacket_s), (16, spec_EntryVlan_s), (17, laws_toPacket_s), (18, impl_EntryVlan_s)]
theorem laws_FnExactEntryVlan_x : CtxHolds Try.prog laws_FnExactEntryVlan_G := ctx_cons laws_szPortS_h (ctx_cons laws_toPortS_h (ctx_cons laws_eqPortS_h (ctx_cons laws_szPacket_h (ctx_cons spec_EntryVlan_h (ctx_cons laws_toPacket_h (ctx_cons impl_EntryVlan_h ctx_nil))))))
def laws_FnExactEntryVlan_A : List (Nat × Ann) := []
theorem laws_FnExactEntryVlan_r (N : Nat) (aList : Rows) (aFrom : Int) (aP : SPacket) : runF Try.prog laws_FnExactEntryVlan_G laws_FnExactEntryVlan_A N Try.f4 laws_FnExactEntryVlan_s (.sl aList :: (.int aFrom :: (aP.enc ++ ([])))) = laws_FnExactEntryVlan_t Vm.bad (fun r0 => ((true, [.bool r0]) : Res)) aList aFrom aP := by kernel_rfl
theorem laws_FnExactEntryVlan_h : Holds Try.prog 4 laws_FnExactEntryVlan_s := by
  refine holds_of_run (A := laws_FnExactEntryVlan_A) laws_FnExactEntryVlan_x Try.func4 rfl (by kernel_rfl) (of_decide_eq_true (by kernel_rfl)) (of_decide_eq_true (by kernel_rfl)) ?_
  intro ds hw hok
  replace hw : WtL ((.sl [.int .i64, .sl [.int .i64], .int .i64, .bool]) :: ((.int .i64) :: (SPacket.ct ++ ([])))) ds := hw
  obtain ⟨aList, ds, rfl, h_aList, hw⟩ := of_wt_sl hw
  obtain ⟨aFrom, ds, rfl, h_aFrom, hw⟩ := of_wt_int hw
  obtain ⟨aP, ds, rfl, h_aP, hw⟩ := SPacket.of_wt (r := _) hw
  obtain rfl := of_wt_nil hw
  exact ⟨0, ((laws_FnExactEntryVlan_r 0 aList aFrom aP).trans (laws_FnExactEntryVlan_c Vm.bad _ aList aFrom aP h_aList h_aFrom h_aP hok)).trans (by kernel_rfl)⟩

def impl_LeavePacket_s : Sum := { ps := [⟨[.sl [.int .i64, .sl [.int .i64], .int .i64, .bool]], false⟩, ⟨[.int .i64], false⟩, ⟨[.int .i64], false⟩, ⟨[.int .i64, .int .i64, .int .i64, .int .i64, .int .i64, .int .i64, .int .i64, .int .i64, .int .i64, .int .i64, .int .i64, .int .i64, .int .i64, .int .i64, .int .i64, .str], true⟩], rs := [⟨[.imm (.int .i64), .imm (.int .i64), .imm (.int .i64), .imm (.int .i64), .imm (.int .i64), .imm (.int .i64), .imm (.int .i64), .imm (.int .i64), .imm (.int .i64), .imm (.int .i64), .imm (.int .i64), .imm (.int .i64), .imm (.int .i64), .imm (.int .i64), .imm (.int .i64), .imm .str], true⟩], fn := fun ds => (true, SPacket.enc (LeavePacket (rR ds 0) (rI ds 1) (rI ds 2) (SPacket.decAt ds 3))) }
def impl_LeavePacket_G : Ctx := [(13, impl_PortsOk_s), (45, impl_between_s), (48, impl_hasInt_s), (54, impl_SuperOk_s)]
theorem impl_LeavePacket_x : CtxHolds Try.prog impl_LeavePacket_G := ctx_cons impl_PortsOk_h (ctx_cons impl_between_h (ctx_cons impl_hasInt_h (ctx_cons impl_SuperOk_h ctx_nil)))
def impl_LeavePacket_A : List (Nat × Ann) := []
theorem impl_LeavePacket_r (N : Nat) (list_ : Rows) (to : Int) (vlan : Int) (p : SPacket) : runF Try.prog impl_LeavePacket_G impl_LeavePacket_A N Try.f23 impl_LeavePacket_s (.sl list_ :: (.int to :: (.int vlan :: (p.enc ++ ([]))))) = impl_LeavePacket_t Vm.bad (fun r0 => ((true, SPacket.enc r0) : Res)) list_ to vlan p := by kernel_rfl
theorem impl_LeavePacket_h : Holds Try.prog 23 impl_LeavePacket_s := by
  refine holds_of_run (A := impl_LeavePacket_A) impl_LeavePacket_x Try.func23 rfl (by kernel_rfl) (of_decide_eq_true (by kernel_rfl)) (of_decide_eq_true (by kernel_rfl)) ?_
  intro ds hw hok
  replace hw : WtL ((.sl [.int .i64, .sl [.int .i64], .int .i64, .bool]) :: ((.int .i64) :: ((.int .i64) :: (SPacket.ct ++ ([]))))) ds := hw
  obtain ⟨list_, ds, rfl, h_list_, hw⟩ := of_wt_sl hw
  obtain ⟨to, ds, rfl, h_to, hw⟩ := of_wt_int hw
  obtain ⟨vlan, ds, rfl, h_vlan, hw⟩ := of_wt_int hw
  obtain ⟨p, ds, rfl, h_p, hw⟩ := SPacket.of_wt (r := _) hw
  obtain rfl := of_wt_nil hw
  exact ⟨0, ((impl_LeavePacket_r 0 list_ to vlan p).trans (impl_LeavePacket_c Vm.bad _ list_ to vlan p h_list_ h_to h_vlan h_p)).trans (by kernel_rfl)⟩

def spec_LeavePacket_s : Sum := { ps := [⟨[.sl [.int .i64, .sl [.int .i64], .int .i64, .bool]], false⟩, ⟨[.int .i64], false⟩, ⟨[.int .i64], false⟩, ⟨[.int .i64, .int .i64, .int .i64, .int .i64, .int .i64, .int .i64, .int .i64, .int .i64, .int .i64, .int .i64, .int .i64, .int .i64, .int .i64, .int .i64, .int .i64, .str], true⟩], rs := [⟨[.imm (.int .i64), .imm (.int .i64), .imm (.int .i64), .imm (.int .i64), .imm (.int .i64), .imm (.int .i64), .imm (.int .i64), .imm (.int .i64), .imm (.int .i64), .imm (.int .i64), .imm (.int .i64), .imm (.int .i64), .imm (.int .i64), .imm (.int .i64), .imm (.int .i64), .imm .str], true⟩], fn := fun ds => (true, SPacket.enc (LeavePacket (rR ds 0) (rI ds 1) (rI ds 2) (SPacket.decAt ds 3))) }
def spec_LeavePacket_G : Ctx := [(11, spec_PortsOk_s), (41, spec_l01In_s), (43, spec_l24Has_s), (52, spec_SuperOk_s)]
theorem spec_LeavePacket_x : CtxHolds Try.prog spec_LeavePacket_G := ctx_cons spec_PortsOk_h (ctx_cons spec_l01In_h (ctx_cons spec_l24Has_h (ctx_cons spec_SuperOk_h ctx_nil)))
def spec_LeavePacket_A : List (Nat × Ann) := []
theorem spec_LeavePacket_r (N : Nat) (list_ : Rows) (to : Int) (vlan : Int) (p : SPacket) : runF Try.prog spec_LeavePacket_G spec_LeavePacket_A N Try.f26 spec_LeavePacket_s (.sl list_ :: (.int to :: (.int vlan :: (p.enc ++ ([]))))) = spec_LeavePacket_t Vm.bad (fun r0 => ((true, SPacket.enc r0) : Res)) list_ to vlan p := by kernel_rfl
theorem spec_LeavePacket_h : Holds Try.prog 26 spec_LeavePacket_s := by
  refine holds_of_run (A := spec_LeavePacket_A) spec_LeavePacket_x Try.func26 rfl (by kernel_rfl) (of_decide_eq_true (by kernel_rfl)) (of_decide_eq_true (by kernel_rfl)) ?_
  intro ds hw hok
  replace hw : WtL ((.sl [.int .i64, .sl [.int .i64], .int .i64, .bool]) :: ((.int .i64) :: ((.int .i64) :: (SPacket.ct ++ ([]))))) ds := hw
  obtain ⟨list_, ds, rfl, h_list_, hw⟩ := of_wt_sl hw
  obtain ⟨to, ds, rfl, h_to, hw⟩ := of_wt_int hw
  obtain ⟨vlan, ds, rfl, h_vlan, hw⟩ := of_wt_int hw
  obtain ⟨p, ds, rfl, h_p, hw⟩ := SPacket.of_wt (r := _) hw
  obtain rfl := of_wt_nil hw
  exact ⟨0, ((spec_LeavePacket_r 0 list_ to vlan p).trans (spec_LeavePacket_c Vm.bad _ list_ to vlan p h_list_ h_to h_vlan h_p)).trans (by kernel_rfl)⟩

def laws_FnExactLeavePacket_s : Sum := { ps := [⟨[.sl [.int .i64, .sl [.int .i64], .int .i64, .bool]], false⟩, ⟨[.int .i64], false⟩, ⟨[.int .i64], false⟩, ⟨[.int .i64, .int .i64, .int .i64, .int .i64, .int .i64, .int .i64, .int .i64, .int .i64, .int .i64, .int .i64, .int .i64, .int .i64, .int .i64, .int .i64, .int .i64, .str], true⟩], rs := [⟨[.imm .bool], false⟩], fn := fun ds => (fitL ((.sl [.int .i64, .sl [.int .i64], .int .i64, .bool]) :: ((.int .i64) :: ((.int .i64) :: (SPacket.ct ++ ([]))))) ds, [.bool true]) }
def laws_FnExactLeavePacket_G : Ctx := [(10, laws_szPortS_s), (12, laws_toPortS_s), (14, laws_eqPortS_s), (15, laws_szPacket_s), (17, laws_toPacket_s), (23, impl_LeavePacket_s), (26, spec_LeavePacket_s), (27, laws_eqPacket_s)]
theorem laws_FnExactLeavePacket_x : CtxHolds Try.prog laws_FnExactLeavePacket_G := ctx_cons laws_szPortS_h (ctx_cons laws_toPortS_h (ctx_cons laws_eqPortS_h (ctx_cons laws_szPacket_h (ctx_cons laws_toPacket_h (ctx_cons impl_LeavePacket_h (ctx_cons spec_LeavePacket_h (ctx_cons laws_eqPacket_h ctx_nil)))))))
def laws_FnExactLeavePacket_A : List (Nat × Ann) := []
theorem laws_FnExactLeavePacket_r (N : Nat) (aList : Rows) (aTo : Int) (aVlan : Int) (aP : SPacket) : runF Try.prog laws_FnExactLeavePacket_G laws_FnExactLeavePacket_A N Try.f7 laws_FnExactLeavePacket_s (.sl aList :: (.int aTo :: (.int aVlan :: (aP.enc ++ ([]))))) = laws_FnExactLeavePacket_t Vm.bad (fun r0 => ((true, [.bool r0]) : Res)) aList aTo aVlan aP := by kernel_rfl
theorem laws_FnExactLeavePacket_h : Holds Try.prog 7 laws_FnExactLeavePacket_s := by
  refine holds_of_run (A := laws_FnExactLeavePacket_A) laws_FnExactLeavePacket_x Try.func7 rfl (by kernel_rfl) (of_decide_eq_true (by kernel_rfl)) (of_decide_eq_true (by kernel_rfl)) ?_
  intro ds hw hok
  replace hw : WtL ((.sl [.int .i64, .sl [.int .i64], .int .i64, .bool]) :: ((.int .i64) :: ((.int .i64) :: (SPacket.ct ++ ([]))))) ds := hw
  obtain ⟨aList, ds, rfl, h_aList, hw⟩ := of_wt_sl hw
  obtain ⟨aTo, ds, rfl, h_aTo, hw⟩ := of_wt_int hw
  obtain ⟨aVlan, ds, rfl, h_aVlan, hw⟩ := of_wt_int hw
  obtain ⟨aP, ds, rfl, h_aP, hw⟩ := SPacket.of_wt (r := _) hw
  obtain rfl := of_wt_nil hw
  exact ⟨0, ((laws_FnExactLeavePacket_r 0 aList aTo aVlan aP).trans (laws_FnExactLeavePacket_c Vm.bad _ aList aTo aVlan aP h_aList h_aTo h_aVlan h_aP hok)).trans (by kernel_rfl)⟩

end
end Go.Proofs.Ytklbgnodgnlebaa.Pl
