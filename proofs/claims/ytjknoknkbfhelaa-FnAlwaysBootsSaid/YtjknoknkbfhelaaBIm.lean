/- The contracts of functions of the program: each computes what its plain form says. Conditions: none. -/
import Derived.Test.YtjknoknkbfhelaaPIm
import Derived.Test.YtjknoknkbfhelaaRows
import Derived.Test.YtjknoknkbfhelaaBFc
import Derived.Test.YtjknoknkbfhelaaBCu
import Derived.Test.YtjknoknkbfhelaaBCl
set_option linter.unusedVariables false
set_option linter.unusedSimpArgs false
set_option maxRecDepth 100000
namespace Go.Proofs.Ytjknoknkbfhelaa.Pl
open Vm
noncomputable section

def spec_l02Data_s : Sum := { ps := [⟨[.sl [.int .u8], .int .i64, .int .i64], true⟩], rs := [⟨[.imm .str], false⟩], fn := fun ds => (curOk (Sl01Cur.decAt ds 0), [.str (l02Data (Sl01Cur.decAt ds 0)).1] ++ Sl01Cur.enc (l02Data (Sl01Cur.decAt ds 0)).2), ms := [some (.box 85)] }
def spec_l02Data_G : Ctx := [(63, spec_l01Long_s), (71, spec_l01Below_s), (74, spec_l01Once_s), (75, spec_l01Text_s)]
theorem spec_l02Data_x : CtxHolds Try.prog spec_l02Data_G := ctx_cons spec_l01Long_h (ctx_cons spec_l01Below_h (ctx_cons spec_l01Once_h (ctx_cons spec_l01Text_h ctx_nil)))
def spec_l02Data_A : List (Nat × Ann) := []
theorem spec_l02Data_r (N : Nat) (c : Sl01Cur) : runFM Try.prog spec_l02Data_G spec_l02Data_A N Try.f60 spec_l02Data_s (c.enc ++ ([])) = spec_l02Data_t Vm.bad (fun r0 r1 => ((true, [.str r0] ++ Sl01Cur.enc r1) : Res)) c := by kernel_rfl
theorem spec_l02Data_h : HoldsM Try.prog 60 spec_l02Data_s := by
  refine holdsM_of_run (A := spec_l02Data_A) spec_l02Data_x Try.func60 rfl (by kernel_rfl) (of_decide_eq_true (by kernel_rfl)) (of_decide_eq_true (by kernel_rfl)) (by kernel_rfl) (fun ds => by kernel_rfl) ?_
  intro ds hw hok
  replace hw : WtL (Sl01Cur.ct ++ ([])) ds := hw
  obtain ⟨c, ds, rfl, h_c, hw⟩ := Sl01Cur.of_wt (r := _) hw
  obtain rfl := of_wt_nil hw
  exact ⟨0, ((spec_l02Data_r 0 c).trans (spec_l02Data_c Vm.bad _ c h_c hok)).trans (by kernel_rfl)⟩

def spec_DrawData_s : Sum := { ps := [⟨[.sl [.int .u8]], false⟩], rs := [⟨[.imm .str], false⟩], fn := fun ds => (true, [.str (DrawData (rR ds 0))]) }
def spec_DrawData_G : Ctx := [(60, spec_l02Data_s), (61, spec_l01New_s)]
theorem spec_DrawData_x : CtxHolds Try.prog spec_DrawData_G := ctx_cons spec_l02Data_h (ctx_cons spec_l01New_h ctx_nil)
def spec_DrawData_A : List (Nat × Ann) := []
theorem spec_DrawData_r (N : Nat) (code : Rows) : runF Try.prog spec_DrawData_G spec_DrawData_A N Try.f28 spec_DrawData_s (.sl code :: ([])) = spec_DrawData_t Vm.bad (fun r0 => ((true, [.str r0]) : Res)) code := by kernel_rfl
theorem spec_DrawData_h : Holds Try.prog 28 spec_DrawData_s := by
  refine holds_of_run (A := spec_DrawData_A) spec_DrawData_x Try.func28 rfl (by kernel_rfl) (of_decide_eq_true (by kernel_rfl)) (of_decide_eq_true (by kernel_rfl)) ?_
  intro ds hw hok
  replace hw : WtL ((.sl [.int .u8]) :: ([])) ds := hw
  obtain ⟨code, ds, rfl, h_code, hw⟩ := of_wt_sl hw
  obtain rfl := of_wt_nil hw
  exact ⟨0, ((spec_DrawData_r 0 code).trans (spec_DrawData_c Vm.bad _ code h_code)).trans (by kernel_rfl)⟩

def laws_bend_s : Sum := { ps := [⟨[.str], false⟩, ⟨[.int .i64], false⟩], rs := [⟨[.imm .str], false⟩], fn := fun ds => (bendOk (rS ds 0) (rI ds 1), [.str (bend (rS ds 0) (rI ds 1))]) }
def laws_bend_G : Ctx := []
theorem laws_bend_x : CtxHolds Try.prog laws_bend_G := ctx_nil
def laws_bend_A : List (Nat × Ann) := []
theorem laws_bend_r (N : Nat) (s : Bytes) (i : Int) : runF Try.prog laws_bend_G laws_bend_A N Try.f30 laws_bend_s (.str s :: (.int i :: ([]))) = laws_bend_t Vm.bad (fun r0 => ((true, [.str r0]) : Res)) s i := by kernel_rfl
theorem laws_bend_h : Holds Try.prog 30 laws_bend_s := by
  refine holds_of_run (A := laws_bend_A) laws_bend_x Try.func30 rfl (by kernel_rfl) (of_decide_eq_true (by kernel_rfl)) (of_decide_eq_true (by kernel_rfl)) ?_
  intro ds hw hok
  replace hw : WtL (.str :: ((.int .i64) :: ([]))) ds := hw
  obtain ⟨s, ds, rfl, h_s, hw⟩ := of_wt_str hw
  obtain ⟨i, ds, rfl, h_i, hw⟩ := of_wt_int hw
  obtain rfl := of_wt_nil hw
  exact ⟨0, ((laws_bend_r 0 s i).trans (laws_bend_c Vm.bad _ s i h_s h_i hok)).trans (by kernel_rfl)⟩

def laws_FnImages_s : Sum := { ps := [⟨[.sl [.int .u8]], false⟩], rs := [⟨[.imm .bool], false⟩], fn := fun ds => (fitL ((.sl [.int .u8]) :: ([])) ds, [.bool true]) }
def laws_FnImages_G : Ctx := [(24, impl_MakeImage_s), (26, impl_ImageVersion_s), (27, laws_big_s), (28, spec_DrawData_s), (29, laws_at_s), (30, laws_bend_s)]
theorem laws_FnImages_x : CtxHolds Try.prog laws_FnImages_G := ctx_cons impl_MakeImage_h (ctx_cons impl_ImageVersion_h (ctx_cons laws_big_h (ctx_cons spec_DrawData_h (ctx_cons laws_at_h (ctx_cons laws_bend_h ctx_nil)))))
def laws_FnImages_A : List (Nat × Ann) := []
theorem laws_FnImages_r (N : Nat) (code : Rows) : runF Try.prog laws_FnImages_G laws_FnImages_A N Try.f7 laws_FnImages_s (.sl code :: ([])) = laws_FnImages_t Vm.bad (fun r0 => ((true, [.bool r0]) : Res)) code := by kernel_rfl
theorem laws_FnImages_h : Holds Try.prog 7 laws_FnImages_s := by
  refine holds_of_run (A := laws_FnImages_A) laws_FnImages_x Try.func7 rfl (by kernel_rfl) (of_decide_eq_true (by kernel_rfl)) (of_decide_eq_true (by kernel_rfl)) ?_
  intro ds hw hok
  replace hw : WtL ((.sl [.int .u8]) :: ([])) ds := hw
  obtain ⟨code, ds, rfl, h_code, hw⟩ := of_wt_sl hw
  obtain rfl := of_wt_nil hw
  exact ⟨0, ((laws_FnImages_r 0 code).trans (laws_FnImages_c Vm.bad _ code h_code hok)).trans (by kernel_rfl)⟩

end
end Go.Proofs.Ytjknoknkbfhelaa.Pl
