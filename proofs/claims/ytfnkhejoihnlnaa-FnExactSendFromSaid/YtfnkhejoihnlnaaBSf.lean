/- The contracts of functions of the program: each computes what its plain form says. Conditions: none. -/
import Derived.Test.YtfnkhejoihnlnaaPSf
import Derived.Test.YtfnkhejoihnlnaaRows
import Derived.Test.YtfnkhejoihnlnaaBFo
import Derived.Test.YtfnkhejoihnlnaaBTk
import Derived.Test.YtfnkhejoihnlnaaBSy
import Derived.Test.YtfnkhejoihnlnaaBPk
set_option linter.unusedVariables false
set_option linter.unusedSimpArgs false
set_option maxRecDepth 100000
namespace Go.Proofs.Ytfnkhejoihnlnaa.Pl
open Vm
noncomputable section

def impl_SpendTokens_s : Sum := { ps := [⟨[.int .i64, .int .i64, .int .i64], true⟩, ⟨[.int .i64], false⟩], rs := [⟨[.imm (.int .i64), .imm (.int .i64), .imm (.int .i64)], true⟩, ⟨[.imm .bool], false⟩], fn := fun ds => (true, SBucket.enc (SpendTokens (SBucket.decAt ds 0) (rI ds 3)).1 ++ [.bool (SpendTokens (SBucket.decAt ds 0) (rI ds 3)).2]) }
def impl_SpendTokens_G : Ctx := [(68, impl_between_s), (69, impl_BucketOk_s)]
theorem impl_SpendTokens_x : CtxHolds Try.prog impl_SpendTokens_G := ctx_cons impl_between_h (ctx_cons impl_BucketOk_h ctx_nil)
def impl_SpendTokens_A : List (Nat × Ann) := []
theorem impl_SpendTokens_r (N : Nat) (b : SBucket) (n : Int) : runF Try.prog impl_SpendTokens_G impl_SpendTokens_A N Try.f82 impl_SpendTokens_s (b.enc ++ (.int n :: ([]))) = impl_SpendTokens_t (fun r0 r1 => ((true, SBucket.enc r0 ++ [.bool r1]) : Res)) b n := by kernel_rfl
theorem impl_SpendTokens_h : Holds Try.prog 82 impl_SpendTokens_s := by
  refine holds_of_run (A := impl_SpendTokens_A) impl_SpendTokens_x Try.func82 rfl (by kernel_rfl) (of_decide_eq_true (by kernel_rfl)) (of_decide_eq_true (by kernel_rfl)) ?_
  intro ds hw hok
  replace hw : WtL (SBucket.ct ++ ((.int .i64) :: ([]))) ds := hw
  obtain ⟨b, ds, rfl, h_b, hw⟩ := SBucket.of_wt (r := _) hw
  obtain ⟨n, ds, rfl, h_n, hw⟩ := of_wt_int hw
  obtain rfl := of_wt_nil hw
  exact ⟨0, ((impl_SpendTokens_r 0 b n).trans (impl_SpendTokens_c _ b n)).trans (by kernel_rfl)⟩

def spec_SpendTokens_s : Sum := { ps := [⟨[.int .i64, .int .i64, .int .i64], true⟩, ⟨[.int .i64], false⟩], rs := [⟨[.imm (.int .i64), .imm (.int .i64), .imm (.int .i64)], true⟩, ⟨[.imm .bool], false⟩], fn := fun ds => (true, SBucket.enc (SpendTokens (SBucket.decAt ds 0) (rI ds 3)).1 ++ [.bool (SpendTokens (SBucket.decAt ds 0) (rI ds 3)).2]) }
def spec_SpendTokens_G : Ctx := [(64, spec_l01In_s), (65, spec_BucketOk_s)]
theorem spec_SpendTokens_x : CtxHolds Try.prog spec_SpendTokens_G := ctx_cons spec_l01In_h (ctx_cons spec_BucketOk_h ctx_nil)
def spec_SpendTokens_A : List (Nat × Ann) := []
theorem spec_SpendTokens_r (N : Nat) (b : SBucket) (n : Int) : runF Try.prog spec_SpendTokens_G spec_SpendTokens_A N Try.f92 spec_SpendTokens_s (b.enc ++ (.int n :: ([]))) = spec_SpendTokens_t (fun r0 r1 => ((true, SBucket.enc r0 ++ [.bool r1]) : Res)) b n := by kernel_rfl
theorem spec_SpendTokens_h : Holds Try.prog 92 spec_SpendTokens_s := by
  refine holds_of_run (A := spec_SpendTokens_A) spec_SpendTokens_x Try.func92 rfl (by kernel_rfl) (of_decide_eq_true (by kernel_rfl)) (of_decide_eq_true (by kernel_rfl)) ?_
  intro ds hw hok
  replace hw : WtL (SBucket.ct ++ ((.int .i64) :: ([]))) ds := hw
  obtain ⟨b, ds, rfl, h_b, hw⟩ := SBucket.of_wt (r := _) hw
  obtain ⟨n, ds, rfl, h_n, hw⟩ := of_wt_int hw
  obtain rfl := of_wt_nil hw
  exact ⟨0, ((spec_SpendTokens_r 0 b n).trans (spec_SpendTokens_c _ b n h_b h_n)).trans (by kernel_rfl)⟩

def impl_SendFrom_s : Sum := { ps := [⟨[.sl [.int .i64, .int .i64, .int .i64, .int .i64, .int .i64, .bool, .int .i64, .int .i64]], false⟩, ⟨[.sl [.int .i64, .sl [.int .i64], .int .i64, .bool]], false⟩, ⟨[.int .i64], false⟩, ⟨[.int .i64, .int .i64, .int .i64, .int .i64, .int .i64, .int .i64, .int .i64, .int .i64, .int .i64, .int .i64, .int .i64, .int .i64, .int .i64, .int .i64, .int .i64, .str], true⟩], rs := [⟨[.own 66 [.int .i64, .int .i64, .int .i64, .int .i64, .int .i64, .bool, .int .i64, .int .i64]], false⟩, ⟨[.own 3 [.int .i64]], false⟩, ⟨[.imm .bool], false⟩], fn := fun ds => (SendFrom_ok (rR ds 0) (rR ds 1) (rI ds 2) (SPacket.decAt ds 3), [.sl (SendFrom (rR ds 0) (rR ds 1) (rI ds 2) (SPacket.decAt ds 3)).1] ++ [.sl (SendFrom (rR ds 0) (rR ds 1) (rI ds 2) (SPacket.decAt ds 3)).2.1] ++ [.bool (SendFrom (rR ds 0) (rR ds 1) (rI ds 2) (SPacket.decAt ds 3)).2.2]) }
def impl_SendFrom_G : Ctx := [(28, impl_FunctionsOk_s), (56, impl_copyFunctions_s), (68, impl_between_s), (80, impl_PacketOk_s), (81, impl_BuildImage_s), (82, impl_SpendTokens_s), (83, impl_EntryVlan_s), (84, impl_SwitchPacket_s)]
theorem impl_SendFrom_x : CtxHolds Try.prog impl_SendFrom_G := ctx_cons impl_FunctionsOk_h (ctx_cons impl_copyFunctions_h (ctx_cons impl_between_h (ctx_cons impl_PacketOk_h (ctx_cons impl_BuildImage_h (ctx_cons impl_SpendTokens_h (ctx_cons impl_EntryVlan_h (ctx_cons impl_SwitchPacket_h ctx_nil)))))))
def impl_SendFrom_A : List (Nat × Ann) := []
theorem impl_SendFrom_r (N : Nat) (list_ : Rows) (ports : Rows) (k : Int) (p : SPacket) : runF Try.prog impl_SendFrom_G impl_SendFrom_A N Try.f46 impl_SendFrom_s (.sl list_ :: (.sl ports :: (.int k :: (p.enc ++ ([]))))) = impl_SendFrom_t Vm.bad (fun r0 r1 r2 => ((true, [.sl r0] ++ [.sl r1] ++ [.bool r2]) : Res)) list_ ports k p := by kernel_rfl
theorem impl_SendFrom_h : Holds Try.prog 46 impl_SendFrom_s := by
  refine holds_of_run (A := impl_SendFrom_A) impl_SendFrom_x Try.func46 rfl (by kernel_rfl) (of_decide_eq_true (by kernel_rfl)) (of_decide_eq_true (by kernel_rfl)) ?_
  intro ds hw hok
  replace hw : WtL ((.sl [.int .i64, .int .i64, .int .i64, .int .i64, .int .i64, .bool, .int .i64, .int .i64]) :: ((.sl [.int .i64, .sl [.int .i64], .int .i64, .bool]) :: ((.int .i64) :: (SPacket.ct ++ ([]))))) ds := hw
  obtain ⟨list_, ds, rfl, h_list_, hw⟩ := of_wt_sl hw
  obtain ⟨ports, ds, rfl, h_ports, hw⟩ := of_wt_sl hw
  obtain ⟨k, ds, rfl, h_k, hw⟩ := of_wt_int hw
  obtain ⟨p, ds, rfl, h_p, hw⟩ := SPacket.of_wt (r := _) hw
  obtain rfl := of_wt_nil hw
  exact ⟨0, ((impl_SendFrom_r 0 list_ ports k p).trans (impl_SendFrom_c Vm.bad _ list_ ports k p h_list_ h_ports h_k h_p hok)).trans (by kernel_rfl)⟩

def spec_SendFrom_s : Sum := { ps := [⟨[.sl [.int .i64, .int .i64, .int .i64, .int .i64, .int .i64, .bool, .int .i64, .int .i64]], false⟩, ⟨[.sl [.int .i64, .sl [.int .i64], .int .i64, .bool]], false⟩, ⟨[.int .i64], false⟩, ⟨[.int .i64, .int .i64, .int .i64, .int .i64, .int .i64, .int .i64, .int .i64, .int .i64, .int .i64, .int .i64, .int .i64, .int .i64, .int .i64, .int .i64, .int .i64, .str], true⟩], rs := [⟨[.own 66 [.int .i64, .int .i64, .int .i64, .int .i64, .int .i64, .bool, .int .i64, .int .i64]], false⟩, ⟨[.own 3 [.int .i64]], false⟩, ⟨[.imm .bool], false⟩], fn := fun ds => (SendFrom_ok (rR ds 0) (rR ds 1) (rI ds 2) (SPacket.decAt ds 3), [.sl (SendFrom (rR ds 0) (rR ds 1) (rI ds 2) (SPacket.decAt ds 3)).1] ++ [.sl (SendFrom (rR ds 0) (rR ds 1) (rI ds 2) (SPacket.decAt ds 3)).2.1] ++ [.bool (SendFrom (rR ds 0) (rR ds 1) (rI ds 2) (SPacket.decAt ds 3)).2.2]) }
def spec_SendFrom_G : Ctx := [(26, spec_FunctionsOk_s), (47, spec_BuildImage_s), (91, spec_PacketOk_s), (92, spec_SpendTokens_s), (93, spec_EntryVlan_s), (94, spec_SwitchPacket_s)]
theorem spec_SendFrom_x : CtxHolds Try.prog spec_SendFrom_G := ctx_cons spec_FunctionsOk_h (ctx_cons spec_BuildImage_h (ctx_cons spec_PacketOk_h (ctx_cons spec_SpendTokens_h (ctx_cons spec_EntryVlan_h (ctx_cons spec_SwitchPacket_h ctx_nil)))))
def spec_SendFrom_A : List (Nat × Ann) := []
theorem spec_SendFrom_r (N : Nat) (list_ : Rows) (ports : Rows) (k : Int) (p : SPacket) : runF Try.prog spec_SendFrom_G spec_SendFrom_A N Try.f49 spec_SendFrom_s (.sl list_ :: (.sl ports :: (.int k :: (p.enc ++ ([]))))) = spec_SendFrom_t Vm.bad (fun r0 r1 r2 => ((true, [.sl r0] ++ [.sl r1] ++ [.bool r2]) : Res)) list_ ports k p := by kernel_rfl
theorem spec_SendFrom_h : Holds Try.prog 49 spec_SendFrom_s := by
  refine holds_of_run (A := spec_SendFrom_A) spec_SendFrom_x Try.func49 rfl (by kernel_rfl) (of_decide_eq_true (by kernel_rfl)) (of_decide_eq_true (by kernel_rfl)) ?_
  intro ds hw hok
  replace hw : WtL ((.sl [.int .i64, .int .i64, .int .i64, .int .i64, .int .i64, .bool, .int .i64, .int .i64]) :: ((.sl [.int .i64, .sl [.int .i64], .int .i64, .bool]) :: ((.int .i64) :: (SPacket.ct ++ ([]))))) ds := hw
  obtain ⟨list_, ds, rfl, h_list_, hw⟩ := of_wt_sl hw
  obtain ⟨ports, ds, rfl, h_ports, hw⟩ := of_wt_sl hw
  obtain ⟨k, ds, rfl, h_k, hw⟩ := of_wt_int hw
  obtain ⟨p, ds, rfl, h_p, hw⟩ := SPacket.of_wt (r := _) hw
  obtain rfl := of_wt_nil hw
  exact ⟨0, ((spec_SendFrom_r 0 list_ ports k p).trans (spec_SendFrom_c Vm.bad _ list_ ports k p h_list_ h_ports h_k h_p hok)).trans (by kernel_rfl)⟩

end
end Go.Proofs.Ytfnkhejoihnlnaa.Pl
