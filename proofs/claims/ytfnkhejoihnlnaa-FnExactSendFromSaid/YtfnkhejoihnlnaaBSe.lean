/- The contracts of functions of the program: each computes what its plain form says. Conditions: none. -/
import Derived.Test.YtfnkhejoihnlnaaPSe
import Derived.Test.YtfnkhejoihnlnaaRows
import Derived.Test.YtfnkhejoihnlnaaBSf
import Derived.Test.YtfnkhejoihnlnaaBDm
set_option linter.unusedVariables false
set_option linter.unusedSimpArgs false
set_option maxRecDepth 100000
namespace Go.Proofs.Ytfnkhejoihnlnaa.Pl
open Vm
noncomputable section

def laws_FnExactSendFrom_s : Sum := { ps := [⟨[.sl [.int .i64, .int .i64, .int .i64, .int .i64, .int .i64, .bool, .int .i64, .int .i64]], false⟩, ⟨[.sl [.int .i64, .sl [.int .i64], .int .i64, .bool]], false⟩, ⟨[.int .i64], false⟩, ⟨[.int .i64, .int .i64, .int .i64, .int .i64, .int .i64, .int .i64, .int .i64, .int .i64, .int .i64, .int .i64, .int .i64, .int .i64, .int .i64, .int .i64, .int .i64, .str], true⟩], rs := [⟨[.imm .bool], false⟩], fn := fun ds => (fitL ((.sl [.int .i64, .int .i64, .int .i64, .int .i64, .int .i64, .bool, .int .i64, .int .i64]) :: ((.sl [.int .i64, .sl [.int .i64], .int .i64, .bool]) :: ((.int .i64) :: (SPacket.ct ++ ([]))))) ds, [.bool true]) }
def laws_FnExactSendFrom_G : Ctx := [(11, laws_szVirtualFunctionS_s), (13, laws_toVirtualFunctionS_s), (15, laws_eqVirtualFunctionS_s), (18, laws_markVirtualFunctionS_s), (19, laws_heldVirtualFunctionS_s), (25, laws_szPortS_s), (27, laws_toPortS_s), (29, laws_eqPortS_s), (33, laws_eqIntS_s), (35, laws_markIntS_s), (46, impl_SendFrom_s), (48, laws_szPacket_s), (49, spec_SendFrom_s), (50, laws_toPacket_s), (51, laws_markPortS_s), (52, laws_heldIntS_s)]
theorem laws_FnExactSendFrom_x : CtxHolds Try.prog laws_FnExactSendFrom_G := ctx_cons laws_szVirtualFunctionS_h (ctx_cons laws_toVirtualFunctionS_h (ctx_cons laws_eqVirtualFunctionS_h (ctx_cons laws_markVirtualFunctionS_h (ctx_cons laws_heldVirtualFunctionS_h (ctx_cons laws_szPortS_h (ctx_cons laws_toPortS_h (ctx_cons laws_eqPortS_h (ctx_cons laws_eqIntS_h (ctx_cons laws_markIntS_h (ctx_cons impl_SendFrom_h (ctx_cons laws_szPacket_h (ctx_cons spec_SendFrom_h (ctx_cons laws_toPacket_h (ctx_cons laws_markPortS_h (ctx_cons laws_heldIntS_h ctx_nil)))))))))))))))
def laws_FnExactSendFrom_A : List (Nat × Ann) := []
theorem laws_FnExactSendFrom_r (N : Nat) (aList : Rows) (aPorts : Rows) (aK : Int) (aP : SPacket) : runF Try.prog laws_FnExactSendFrom_G laws_FnExactSendFrom_A N Try.f10 laws_FnExactSendFrom_s (.sl aList :: (.sl aPorts :: (.int aK :: (aP.enc ++ ([]))))) = laws_FnExactSendFrom_t Vm.bad (fun r0 => ((true, [.bool r0]) : Res)) aList aPorts aK aP := by kernel_rfl
theorem laws_FnExactSendFrom_h : Holds Try.prog 10 laws_FnExactSendFrom_s := by
  refine holds_of_run (A := laws_FnExactSendFrom_A) laws_FnExactSendFrom_x Try.func10 rfl (by kernel_rfl) (of_decide_eq_true (by kernel_rfl)) (of_decide_eq_true (by kernel_rfl)) ?_
  intro ds hw hok
  replace hw : WtL ((.sl [.int .i64, .int .i64, .int .i64, .int .i64, .int .i64, .bool, .int .i64, .int .i64]) :: ((.sl [.int .i64, .sl [.int .i64], .int .i64, .bool]) :: ((.int .i64) :: (SPacket.ct ++ ([]))))) ds := hw
  obtain ⟨aList, ds, rfl, h_aList, hw⟩ := of_wt_sl hw
  obtain ⟨aPorts, ds, rfl, h_aPorts, hw⟩ := of_wt_sl hw
  obtain ⟨aK, ds, rfl, h_aK, hw⟩ := of_wt_int hw
  obtain ⟨aP, ds, rfl, h_aP, hw⟩ := SPacket.of_wt (r := _) hw
  obtain rfl := of_wt_nil hw
  exact ⟨0, ((laws_FnExactSendFrom_r 0 aList aPorts aK aP).trans (laws_FnExactSendFrom_c Vm.bad _ aList aPorts aK aP h_aList h_aPorts h_aK h_aP hok)).trans (by kernel_rfl)⟩

end
end Go.Proofs.Ytfnkhejoihnlnaa.Pl
