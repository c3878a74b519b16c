/- The contracts of functions of the program: each computes what its plain form says. Conditions: none. -/
import Derived.Test.YtklbgnodgnlebaaPSv
import Derived.Test.YtklbgnodgnlebaaRows
import Derived.Test.YtklbgnodgnlebaaBSy
import Derived.Test.YtklbgnodgnlebaaBDm
set_option linter.unusedVariables false
set_option linter.unusedSimpArgs false
set_option maxRecDepth 100000
namespace Go.Proofs.Ytklbgnodgnlebaa.Pl
open Vm
noncomputable section

def laws_FnExactSwitchPacket_s : Sum := { ps := [⟨[.sl [.int .i64, .sl [.int .i64], .int .i64, .bool]], false⟩, ⟨[.int .i64], false⟩, ⟨[.int .i64, .int .i64, .int .i64, .int .i64, .int .i64, .int .i64, .int .i64, .int .i64, .int .i64, .int .i64, .int .i64, .int .i64, .int .i64, .int .i64, .int .i64, .str], true⟩], rs := [⟨[.imm .bool], false⟩], fn := fun ds => (fitL ((.sl [.int .i64, .sl [.int .i64], .int .i64, .bool]) :: ((.int .i64) :: (SPacket.ct ++ ([])))) ds, [.bool true]) }
def laws_FnExactSwitchPacket_G : Ctx := [(10, laws_szPortS_s), (12, laws_toPortS_s), (14, laws_eqPortS_s), (15, laws_szPacket_s), (17, laws_toPacket_s), (21, impl_SwitchPacket_s), (24, spec_SwitchPacket_s), (28, laws_eqIntS_s), (29, laws_markPortS_s), (30, laws_markIntS_s), (31, laws_heldIntS_s)]
theorem laws_FnExactSwitchPacket_x : CtxHolds Try.prog laws_FnExactSwitchPacket_G := ctx_cons laws_szPortS_h (ctx_cons laws_toPortS_h (ctx_cons laws_eqPortS_h (ctx_cons laws_szPacket_h (ctx_cons laws_toPacket_h (ctx_cons impl_SwitchPacket_h (ctx_cons spec_SwitchPacket_h (ctx_cons laws_eqIntS_h (ctx_cons laws_markPortS_h (ctx_cons laws_markIntS_h (ctx_cons laws_heldIntS_h ctx_nil))))))))))
def laws_FnExactSwitchPacket_A : List (Nat × Ann) := []
theorem laws_FnExactSwitchPacket_r (N : Nat) (aList : Rows) (aFrom : Int) (aP : SPacket) : runF Try.prog laws_FnExactSwitchPacket_G laws_FnExactSwitchPacket_A N Try.f8 laws_FnExactSwitchPacket_s (.sl aList :: (.int aFrom :: (aP.enc ++ ([])))) = laws_FnExactSwitchPacket_t Vm.bad (fun r0 => ((true, [.bool r0]) : Res)) aList aFrom aP := by kernel_rfl
theorem laws_FnExactSwitchPacket_h : Holds Try.prog 8 laws_FnExactSwitchPacket_s := by
  refine holds_of_run (A := laws_FnExactSwitchPacket_A) laws_FnExactSwitchPacket_x Try.func8 rfl (by kernel_rfl) (of_decide_eq_true (by kernel_rfl)) (of_decide_eq_true (by kernel_rfl)) ?_
  intro ds hw hok
  replace hw : WtL ((.sl [.int .i64, .sl [.int .i64], .int .i64, .bool]) :: ((.int .i64) :: (SPacket.ct ++ ([])))) ds := hw
  obtain ⟨aList, ds, rfl, h_aList, hw⟩ := of_wt_sl hw
  obtain ⟨aFrom, ds, rfl, h_aFrom, hw⟩ := of_wt_int hw
  obtain ⟨aP, ds, rfl, h_aP, hw⟩ := SPacket.of_wt (r := _) hw
  obtain rfl := of_wt_nil hw
  exact ⟨0, ((laws_FnExactSwitchPacket_r 0 aList aFrom aP).trans (laws_FnExactSwitchPacket_c Vm.bad _ aList aFrom aP h_aList h_aFrom h_aP hok)).trans (by kernel_rfl)⟩

end
end Go.Proofs.Ytklbgnodgnlebaa.Pl
