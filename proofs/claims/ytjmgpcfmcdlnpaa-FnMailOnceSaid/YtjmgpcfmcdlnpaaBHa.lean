/- The contracts of functions of the program: each computes what its plain form says. Conditions: none. -/
import Derived.Test.YtjmgpcfmcdlnpaaPHa
import Derived.Test.YtjmgpcfmcdlnpaaRows
import Derived.Test.YtjmgpcfmcdlnpaaBMa
import Derived.Test.YtjmgpcfmcdlnpaaBFi
set_option linter.unusedVariables false
set_option linter.unusedSimpArgs false
set_option maxRecDepth 100000
namespace Go.Proofs.Ytjmgpcfmcdlnpaa.Pl
open Vm
noncomputable section

def impl_command_s : Sum := { ps := [⟨[.int .i64, .bool, .sl [.int .i64]], true⟩, ⟨[.int .i64, .int .i64, .int .i64], true⟩], rs := [⟨[.imm (.int .i64), .imm .bool, .own 3 [.int .i64]], true⟩, ⟨[.imm (.int .i64)], false⟩], fn := fun ds => (fiSm2 (SFilter.decAt ds 0) (SMessage.decAt ds 3), SFilter.enc (Perform (SFilter.decAt ds 0) (SMessage.decAt ds 3)).1 ++ [.int (Perform (SFilter.decAt ds 0) (SMessage.decAt ds 3)).2]) }
def impl_command_G : Ctx := [(17, impl_FilterOk_s), (57, impl_copyFilter_s), (58, impl_AddVlan_s), (59, impl_DropVlan_s)]
theorem impl_command_x : CtxHolds Try.prog impl_command_G := ctx_cons impl_FilterOk_h (ctx_cons impl_copyFilter_h (ctx_cons impl_AddVlan_h (ctx_cons impl_DropVlan_h ctx_nil)))
def impl_command_A : List (Nat × Ann) := []
theorem impl_command_r (N : Nat) (f : SFilter) (x : SMessage) : runF Try.prog impl_command_G impl_command_A N Try.f44 impl_command_s (f.enc ++ (x.enc ++ ([]))) = impl_command_t Vm.bad (fun r0 r1 => ((true, SFilter.enc r0 ++ [.int r1]) : Res)) f x := by kernel_rfl
theorem impl_command_h : Holds Try.prog 44 impl_command_s := by
  refine holds_of_run (A := impl_command_A) impl_command_x Try.func44 rfl (by kernel_rfl) (of_decide_eq_true (by kernel_rfl)) (of_decide_eq_true (by kernel_rfl)) ?_
  intro ds hw hok
  replace hw : WtL (SFilter.ct ++ (SMessage.ct ++ ([]))) ds := hw
  obtain ⟨f, ds, rfl, h_f, hw⟩ := SFilter.of_wt (r := _) hw
  obtain ⟨x, ds, rfl, h_x, hw⟩ := SMessage.of_wt (r := _) hw
  obtain rfl := of_wt_nil hw
  exact ⟨0, ((impl_command_r 0 f x).trans (impl_command_c Vm.bad _ f x h_f h_x hok)).trans (by kernel_rfl)⟩

def spec_l35Perform_s : Sum := { ps := [⟨[.int .i64, .bool, .sl [.int .i64]], true⟩, ⟨[.int .i64, .int .i64, .int .i64], true⟩], rs := [⟨[.imm (.int .i64), .imm .bool, .own 3 [.int .i64]], true⟩, ⟨[.imm (.int .i64)], false⟩], fn := fun ds => (fiSm2 (SFilter.decAt ds 0) (SMessage.decAt ds 3), SFilter.enc (Perform (SFilter.decAt ds 0) (SMessage.decAt ds 3)).1 ++ [.int (Perform (SFilter.decAt ds 0) (SMessage.decAt ds 3)).2]) }
def spec_l35Perform_G : Ctx := [(35, spec_FilterOk_s), (60, spec_l24Copy_s), (61, spec_AddVlan_s), (62, spec_DropVlan_s)]
theorem spec_l35Perform_x : CtxHolds Try.prog spec_l35Perform_G := ctx_cons spec_FilterOk_h (ctx_cons spec_l24Copy_h (ctx_cons spec_AddVlan_h (ctx_cons spec_DropVlan_h ctx_nil)))
def spec_l35Perform_A : List (Nat × Ann) := []
theorem spec_l35Perform_r (N : Nat) (f : SFilter) (x : SMessage) : runF Try.prog spec_l35Perform_G spec_l35Perform_A N Try.f47 spec_l35Perform_s (f.enc ++ (x.enc ++ ([]))) = spec_l35Perform_t Vm.bad (fun r0 r1 => ((true, SFilter.enc r0 ++ [.int r1]) : Res)) f x := by kernel_rfl
theorem spec_l35Perform_h : Holds Try.prog 47 spec_l35Perform_s := by
  refine holds_of_run (A := spec_l35Perform_A) spec_l35Perform_x Try.func47 rfl (by kernel_rfl) (of_decide_eq_true (by kernel_rfl)) (of_decide_eq_true (by kernel_rfl)) ?_
  intro ds hw hok
  replace hw : WtL (SFilter.ct ++ (SMessage.ct ++ ([]))) ds := hw
  obtain ⟨f, ds, rfl, h_f, hw⟩ := SFilter.of_wt (r := _) hw
  obtain ⟨x, ds, rfl, h_x, hw⟩ := SMessage.of_wt (r := _) hw
  obtain rfl := of_wt_nil hw
  exact ⟨0, ((spec_l35Perform_r 0 f x).trans (spec_l35Perform_c Vm.bad _ f x h_f h_x hok)).trans (by kernel_rfl)⟩

def impl_copyMailbox_s : Sum := { ps := [⟨[.int .i64, .bool, .sl [.int .i64], .int .i64, .int .i64, .int .i64], true⟩], rs := [⟨[.imm (.int .i64), .imm .bool, .own 3 [.int .i64], .imm (.int .i64), .imm (.int .i64), .imm (.int .i64)], true⟩], fn := fun ds => (mbSm (SMailbox.decAt ds 0), SMailbox.enc (idf (SMailbox.decAt ds 0))) }
def impl_copyMailbox_G : Ctx := [(57, impl_copyFilter_s)]
theorem impl_copyMailbox_x : CtxHolds Try.prog impl_copyMailbox_G := ctx_cons impl_copyFilter_h ctx_nil
def impl_copyMailbox_A : List (Nat × Ann) := []
theorem impl_copyMailbox_r (N : Nat) (b : SMailbox) : runF Try.prog impl_copyMailbox_G impl_copyMailbox_A N Try.f43 impl_copyMailbox_s (b.enc ++ ([])) = impl_copyMailbox_t Vm.bad (fun r0 => ((true, SMailbox.enc r0) : Res)) b := by kernel_rfl
theorem impl_copyMailbox_h : Holds Try.prog 43 impl_copyMailbox_s := by
  refine holds_of_run (A := impl_copyMailbox_A) impl_copyMailbox_x Try.func43 rfl (by kernel_rfl) (of_decide_eq_true (by kernel_rfl)) (of_decide_eq_true (by kernel_rfl)) ?_
  intro ds hw hok
  replace hw : WtL (SMailbox.ct ++ ([])) ds := hw
  obtain ⟨b, ds, rfl, h_b, hw⟩ := SMailbox.of_wt (r := _) hw
  obtain rfl := of_wt_nil hw
  exact ⟨0, ((impl_copyMailbox_r 0 b).trans (impl_copyMailbox_c Vm.bad _ b h_b hok)).trans (by kernel_rfl)⟩

def spec_l35Copy_s : Sum := { ps := [⟨[.int .i64, .bool, .sl [.int .i64], .int .i64, .int .i64, .int .i64], true⟩], rs := [⟨[.imm (.int .i64), .imm .bool, .own 3 [.int .i64], .imm (.int .i64), .imm (.int .i64), .imm (.int .i64)], true⟩], fn := fun ds => (mbSm (SMailbox.decAt ds 0), SMailbox.enc (idf (SMailbox.decAt ds 0))) }
def spec_l35Copy_G : Ctx := [(60, spec_l24Copy_s)]
theorem spec_l35Copy_x : CtxHolds Try.prog spec_l35Copy_G := ctx_cons spec_l24Copy_h ctx_nil
def spec_l35Copy_A : List (Nat × Ann) := []
theorem spec_l35Copy_r (N : Nat) (b : SMailbox) : runF Try.prog spec_l35Copy_G spec_l35Copy_A N Try.f46 spec_l35Copy_s (b.enc ++ ([])) = spec_l35Copy_t Vm.bad (fun r0 => ((true, SMailbox.enc r0) : Res)) b := by kernel_rfl
theorem spec_l35Copy_h : Holds Try.prog 46 spec_l35Copy_s := by
  refine holds_of_run (A := spec_l35Copy_A) spec_l35Copy_x Try.func46 rfl (by kernel_rfl) (of_decide_eq_true (by kernel_rfl)) (of_decide_eq_true (by kernel_rfl)) ?_
  intro ds hw hok
  replace hw : WtL (SMailbox.ct ++ ([])) ds := hw
  obtain ⟨b, ds, rfl, h_b, hw⟩ := SMailbox.of_wt (r := _) hw
  obtain rfl := of_wt_nil hw
  exact ⟨0, ((spec_l35Copy_r 0 b).trans (spec_l35Copy_c Vm.bad _ b h_b hok)).trans (by kernel_rfl)⟩

def impl_HandleMessage_s : Sum := { ps := [⟨[.int .i64, .bool, .sl [.int .i64], .int .i64, .int .i64, .int .i64], true⟩, ⟨[.int .i64, .int .i64, .int .i64], true⟩], rs := [⟨[.imm (.int .i64), .imm .bool, .own 3 [.int .i64], .imm (.int .i64), .imm (.int .i64), .imm (.int .i64)], true⟩, ⟨[.imm (.int .i64)], false⟩], fn := fun ds => (mbSm2 (SMailbox.decAt ds 0) (SMessage.decAt ds 6), SMailbox.enc (HandleMessage (SMailbox.decAt ds 0) (SMessage.decAt ds 6)).1 ++ [.int (HandleMessage (SMailbox.decAt ds 0) (SMessage.decAt ds 6)).2]) }
def impl_HandleMessage_G : Ctx := [(11, impl_MailboxOk_s), (43, impl_copyMailbox_s), (44, impl_command_s)]
theorem impl_HandleMessage_x : CtxHolds Try.prog impl_HandleMessage_G := ctx_cons impl_MailboxOk_h (ctx_cons impl_copyMailbox_h (ctx_cons impl_command_h ctx_nil))
def impl_HandleMessage_A : List (Nat × Ann) := []
theorem impl_HandleMessage_r (N : Nat) (b : SMailbox) (x : SMessage) : runF Try.prog impl_HandleMessage_G impl_HandleMessage_A N Try.f15 impl_HandleMessage_s (b.enc ++ (x.enc ++ ([]))) = impl_HandleMessage_t Vm.bad (fun r0 r1 => ((true, SMailbox.enc r0 ++ [.int r1]) : Res)) b x := by kernel_rfl
theorem impl_HandleMessage_h : Holds Try.prog 15 impl_HandleMessage_s := by
  refine holds_of_run (A := impl_HandleMessage_A) impl_HandleMessage_x Try.func15 rfl (by kernel_rfl) (of_decide_eq_true (by kernel_rfl)) (of_decide_eq_true (by kernel_rfl)) ?_
  intro ds hw hok
  replace hw : WtL (SMailbox.ct ++ (SMessage.ct ++ ([]))) ds := hw
  obtain ⟨b, ds, rfl, h_b, hw⟩ := SMailbox.of_wt (r := _) hw
  obtain ⟨x, ds, rfl, h_x, hw⟩ := SMessage.of_wt (r := _) hw
  obtain rfl := of_wt_nil hw
  exact ⟨0, ((impl_HandleMessage_r 0 b x).trans (impl_HandleMessage_c Vm.bad _ b x h_b h_x hok)).trans (by kernel_rfl)⟩

def spec_HandleMessage_s : Sum := { ps := [⟨[.int .i64, .bool, .sl [.int .i64], .int .i64, .int .i64, .int .i64], true⟩, ⟨[.int .i64, .int .i64, .int .i64], true⟩], rs := [⟨[.imm (.int .i64), .imm .bool, .own 3 [.int .i64], .imm (.int .i64), .imm (.int .i64), .imm (.int .i64)], true⟩, ⟨[.imm (.int .i64)], false⟩], fn := fun ds => (mbSm2 (SMailbox.decAt ds 0) (SMessage.decAt ds 6), SMailbox.enc (HandleMessage (SMailbox.decAt ds 0) (SMessage.decAt ds 6)).1 ++ [.int (HandleMessage (SMailbox.decAt ds 0) (SMessage.decAt ds 6)).2]) }
def spec_HandleMessage_G : Ctx := [(9, spec_MailboxOk_s), (46, spec_l35Copy_s), (47, spec_l35Perform_s)]
theorem spec_HandleMessage_x : CtxHolds Try.prog spec_HandleMessage_G := ctx_cons spec_MailboxOk_h (ctx_cons spec_l35Copy_h (ctx_cons spec_l35Perform_h ctx_nil))
def spec_HandleMessage_A : List (Nat × Ann) := []
theorem spec_HandleMessage_r (N : Nat) (b : SMailbox) (x : SMessage) : runF Try.prog spec_HandleMessage_G spec_HandleMessage_A N Try.f19 spec_HandleMessage_s (b.enc ++ (x.enc ++ ([]))) = spec_HandleMessage_t Vm.bad (fun r0 r1 => ((true, SMailbox.enc r0 ++ [.int r1]) : Res)) b x := by kernel_rfl
theorem spec_HandleMessage_h : Holds Try.prog 19 spec_HandleMessage_s := by
  refine holds_of_run (A := spec_HandleMessage_A) spec_HandleMessage_x Try.func19 rfl (by kernel_rfl) (of_decide_eq_true (by kernel_rfl)) (of_decide_eq_true (by kernel_rfl)) ?_
  intro ds hw hok
  replace hw : WtL (SMailbox.ct ++ (SMessage.ct ++ ([]))) ds := hw
  obtain ⟨b, ds, rfl, h_b, hw⟩ := SMailbox.of_wt (r := _) hw
  obtain ⟨x, ds, rfl, h_x, hw⟩ := SMessage.of_wt (r := _) hw
  obtain rfl := of_wt_nil hw
  exact ⟨0, ((spec_HandleMessage_r 0 b x).trans (spec_HandleMessage_c Vm.bad _ b x h_b h_x hok)).trans (by kernel_rfl)⟩

def laws_markFilter_s : Sum := { ps := [⟨[.int .i64, .bool, .sl [.int .i64]], true⟩, ⟨[.int .i64], false⟩], rs := [⟨[.imm (.int .i64)], false⟩], fn := fun ds => (markFilter_ok (SFilter.decAt ds 0) (rI ds 3), [.int (markFilter (SFilter.decAt ds 0) (rI ds 3)).1] ++ [.sl (markFilter (SFilter.decAt ds 0) (rI ds 3)).2]), ms := [some (.rows [3]), none] }
def laws_markFilter_G : Ctx := [(32, laws_markIntS_s)]
theorem laws_markFilter_x : CtxHolds Try.prog laws_markFilter_G := ctx_cons laws_markIntS_h ctx_nil
def laws_markFilter_A : List (Nat × Ann) := []
theorem laws_markFilter_r (N : Nat) (a : SFilter) (k : Int) : runFM Try.prog laws_markFilter_G laws_markFilter_A N Try.f48 laws_markFilter_s (a.enc ++ (.int k :: ([]))) = laws_markFilter_t Vm.bad (fun r0 r1 => ((true, [.int r0] ++ [.sl r1]) : Res)) a k := by kernel_rfl
theorem laws_markFilter_h : HoldsM Try.prog 48 laws_markFilter_s := by
  refine holdsM_of_run (A := laws_markFilter_A) laws_markFilter_x Try.func48 rfl (by kernel_rfl) (of_decide_eq_true (by kernel_rfl)) (of_decide_eq_true (by kernel_rfl)) (by kernel_rfl) (fun ds => by kernel_rfl) ?_
  intro ds hw hok
  replace hw : WtL (SFilter.ct ++ ((.int .i64) :: ([]))) ds := hw
  obtain ⟨a, ds, rfl, h_a, hw⟩ := SFilter.of_wt (r := _) hw
  obtain ⟨k, ds, rfl, h_k, hw⟩ := of_wt_int hw
  obtain rfl := of_wt_nil hw
  exact ⟨0, ((laws_markFilter_r 0 a k).trans (laws_markFilter_c Vm.bad _ a k hok)).trans (by kernel_rfl)⟩

def laws_heldFilter_s : Sum := { ps := [⟨[.int .i64, .bool, .sl [.int .i64]], true⟩, ⟨[.int .i64], false⟩], rs := [⟨[.imm (.int .i64)], false⟩], fn := fun ds => (heldFilter_ok (SFilter.decAt ds 0) (rI ds 3), [.int (heldFilter (SFilter.decAt ds 0) (rI ds 3))]) }
def laws_heldFilter_G : Ctx := [(33, laws_heldIntS_s)]
theorem laws_heldFilter_x : CtxHolds Try.prog laws_heldFilter_G := ctx_cons laws_heldIntS_h ctx_nil
def laws_heldFilter_A : List (Nat × Ann) := []
theorem laws_heldFilter_r (N : Nat) (a : SFilter) (k : Int) : runF Try.prog laws_heldFilter_G laws_heldFilter_A N Try.f49 laws_heldFilter_s (a.enc ++ (.int k :: ([]))) = laws_heldFilter_t Vm.bad (fun r0 => ((true, [.int r0]) : Res)) a k := by kernel_rfl
theorem laws_heldFilter_h : Holds Try.prog 49 laws_heldFilter_s := by
  refine holds_of_run (A := laws_heldFilter_A) laws_heldFilter_x Try.func49 rfl (by kernel_rfl) (of_decide_eq_true (by kernel_rfl)) (of_decide_eq_true (by kernel_rfl)) ?_
  intro ds hw hok
  replace hw : WtL (SFilter.ct ++ ((.int .i64) :: ([]))) ds := hw
  obtain ⟨a, ds, rfl, h_a, hw⟩ := SFilter.of_wt (r := _) hw
  obtain ⟨k, ds, rfl, h_k, hw⟩ := of_wt_int hw
  obtain rfl := of_wt_nil hw
  exact ⟨0, ((laws_heldFilter_r 0 a k).trans (laws_heldFilter_c Vm.bad _ a k hok)).trans (by kernel_rfl)⟩

def laws_markMailbox_s : Sum := { ps := [⟨[.int .i64, .bool, .sl [.int .i64], .int .i64, .int .i64, .int .i64], true⟩, ⟨[.int .i64], false⟩], rs := [⟨[.imm (.int .i64)], false⟩], fn := fun ds => (markMailbox_ok (SMailbox.decAt ds 0) (rI ds 6), [.int (markMailbox (SMailbox.decAt ds 0) (rI ds 6)).1] ++ [.sl (markMailbox (SMailbox.decAt ds 0) (rI ds 6)).2]), ms := [some (.rows [3]), none] }
def laws_markMailbox_G : Ctx := [(48, laws_markFilter_s)]
theorem laws_markMailbox_x : CtxHolds Try.prog laws_markMailbox_G := ctx_cons laws_markFilter_h ctx_nil
def laws_markMailbox_A : List (Nat × Ann) := []
theorem laws_markMailbox_r (N : Nat) (a : SMailbox) (k : Int) : runFM Try.prog laws_markMailbox_G laws_markMailbox_A N Try.f21 laws_markMailbox_s (a.enc ++ (.int k :: ([]))) = laws_markMailbox_t Vm.bad (fun r0 r1 => ((true, [.int r0] ++ [.sl r1]) : Res)) a k := by kernel_rfl
theorem laws_markMailbox_h : HoldsM Try.prog 21 laws_markMailbox_s := by
  refine holdsM_of_run (A := laws_markMailbox_A) laws_markMailbox_x Try.func21 rfl (by kernel_rfl) (of_decide_eq_true (by kernel_rfl)) (of_decide_eq_true (by kernel_rfl)) (by kernel_rfl) (fun ds => by kernel_rfl) ?_
  intro ds hw hok
  replace hw : WtL (SMailbox.ct ++ ((.int .i64) :: ([]))) ds := hw
  obtain ⟨a, ds, rfl, h_a, hw⟩ := SMailbox.of_wt (r := _) hw
  obtain ⟨k, ds, rfl, h_k, hw⟩ := of_wt_int hw
  obtain rfl := of_wt_nil hw
  exact ⟨0, ((laws_markMailbox_r 0 a k).trans (laws_markMailbox_c Vm.bad _ a k hok)).trans (by kernel_rfl)⟩

def laws_heldMailbox_s : Sum := { ps := [⟨[.int .i64, .bool, .sl [.int .i64], .int .i64, .int .i64, .int .i64], true⟩, ⟨[.int .i64], false⟩], rs := [⟨[.imm (.int .i64)], false⟩], fn := fun ds => (heldMailbox_ok (SMailbox.decAt ds 0) (rI ds 6), [.int (heldMailbox (SMailbox.decAt ds 0) (rI ds 6))]) }
def laws_heldMailbox_G : Ctx := [(49, laws_heldFilter_s)]
theorem laws_heldMailbox_x : CtxHolds Try.prog laws_heldMailbox_G := ctx_cons laws_heldFilter_h ctx_nil
def laws_heldMailbox_A : List (Nat × Ann) := []
theorem laws_heldMailbox_r (N : Nat) (a : SMailbox) (k : Int) : runF Try.prog laws_heldMailbox_G laws_heldMailbox_A N Try.f22 laws_heldMailbox_s (a.enc ++ (.int k :: ([]))) = laws_heldMailbox_t Vm.bad (fun r0 => ((true, [.int r0]) : Res)) a k := by kernel_rfl
theorem laws_heldMailbox_h : Holds Try.prog 22 laws_heldMailbox_s := by
  refine holds_of_run (A := laws_heldMailbox_A) laws_heldMailbox_x Try.func22 rfl (by kernel_rfl) (of_decide_eq_true (by kernel_rfl)) (of_decide_eq_true (by kernel_rfl)) ?_
  intro ds hw hok
  replace hw : WtL (SMailbox.ct ++ ((.int .i64) :: ([]))) ds := hw
  obtain ⟨a, ds, rfl, h_a, hw⟩ := SMailbox.of_wt (r := _) hw
  obtain ⟨k, ds, rfl, h_k, hw⟩ := of_wt_int hw
  obtain rfl := of_wt_nil hw
  exact ⟨0, ((laws_heldMailbox_r 0 a k).trans (laws_heldMailbox_c Vm.bad _ a k hok)).trans (by kernel_rfl)⟩

def laws_FnExactHandleMessage_s : Sum := { ps := [⟨[.int .i64, .bool, .sl [.int .i64], .int .i64, .int .i64, .int .i64], true⟩, ⟨[.int .i64, .int .i64, .int .i64], true⟩], rs := [⟨[.imm .bool], false⟩], fn := fun ds => (fitL (SMailbox.ct ++ (SMessage.ct ++ ([]))) ds, [.bool true]) }
def laws_FnExactHandleMessage_G : Ctx := [(8, laws_szMailbox_s), (10, laws_toMailbox_s), (12, laws_eqMailbox_s), (15, impl_HandleMessage_s), (19, spec_HandleMessage_s), (20, laws_toMessage_s), (21, laws_markMailbox_s), (22, laws_heldMailbox_s)]
theorem laws_FnExactHandleMessage_x : CtxHolds Try.prog laws_FnExactHandleMessage_G := ctx_cons laws_szMailbox_h (ctx_cons laws_toMailbox_h (ctx_cons laws_eqMailbox_h (ctx_cons impl_HandleMessage_h (ctx_cons spec_HandleMessage_h (ctx_cons laws_toMessage_h (ctx_cons laws_markMailbox_h (ctx_cons laws_heldMailbox_h ctx_nil)))))))
def laws_FnExactHandleMessage_A : List (Nat × Ann) := []
theorem laws_FnExactHandleMessage_r (N : Nat) (aB : SMailbox) (aX : SMessage) : runF Try.prog laws_FnExactHandleMessage_G laws_FnExactHandleMessage_A N Try.f6 laws_FnExactHandleMessage_s (aB.enc ++ (aX.enc ++ ([]))) = laws_FnExactHandleMessage_t Vm.bad (fun r0 => ((true, [.bool r0]) : Res)) aB aX := by kernel_rfl
theorem laws_FnExactHandleMessage_h : Holds Try.prog 6 laws_FnExactHandleMessage_s := by
  refine holds_of_run (A := laws_FnExactHandleMessage_A) laws_FnExactHandleMessage_x Try.func6 rfl (by kernel_rfl) (of_decide_eq_true (by kernel_rfl)) (of_decide_eq_true (by kernel_rfl)) ?_
  intro ds hw hok
  replace hw : WtL (SMailbox.ct ++ (SMessage.ct ++ ([]))) ds := hw
  obtain ⟨aB, ds, rfl, h_aB, hw⟩ := SMailbox.of_wt (r := _) hw
  obtain ⟨aX, ds, rfl, h_aX, hw⟩ := SMessage.of_wt (r := _) hw
  obtain rfl := of_wt_nil hw
  exact ⟨0, ((laws_FnExactHandleMessage_r 0 aB aX).trans (laws_FnExactHandleMessage_c Vm.bad _ aB aX h_aB h_aX hok)).trans (by kernel_rfl)⟩

end
end Go.Proofs.Ytjmgpcfmcdlnpaa.Pl
