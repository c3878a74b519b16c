/- The contracts of functions of the program: each computes what its plain form says. Conditions: none. -/
import Derived.Test.YtjknoknkbfhelaaPFb
import Derived.Test.YtjknoknkbfhelaaRows
import Derived.Test.YtjknoknkbfhelaaBFa
set_option linter.unusedVariables false
set_option linter.unusedSimpArgs false
set_option maxRecDepth 100000
namespace Go.Proofs.Ytjknoknkbfhelaa.Pl
open Vm
noncomputable section

def impl_MakeImage_s : Sum := { ps := [⟨[.int .i64], false⟩, ⟨[.str], false⟩], rs := [⟨[.imm .str], false⟩, ⟨[.imm .bool], false⟩], fn := fun ds => (MakeImage_ok (rI ds 0) (rS ds 1), [.str (MakeImage (rI ds 0) (rS ds 1)).1] ++ [.bool (MakeImage (rI ds 0) (rS ds 1)).2]) }
def impl_MakeImage_G : Ctx := [(50, impl_between_s), (56, impl_Word32_s), (57, impl_Crc32_s)]
theorem impl_MakeImage_x : CtxHolds Try.prog impl_MakeImage_G := ctx_cons impl_between_h (ctx_cons impl_Word32_h (ctx_cons impl_Crc32_h ctx_nil))
def impl_MakeImage_A : List (Nat × Ann) := []
theorem impl_MakeImage_r (N : Nat) (version : Int) (body : Bytes) : runF Try.prog impl_MakeImage_G impl_MakeImage_A N Try.f24 impl_MakeImage_s (.int version :: (.str body :: ([]))) = impl_MakeImage_t Vm.bad (fun r0 r1 => ((true, [.str r0] ++ [.bool r1]) : Res)) version body := by kernel_rfl
theorem impl_MakeImage_h : Holds Try.prog 24 impl_MakeImage_s := by
  refine holds_of_run (A := impl_MakeImage_A) impl_MakeImage_x Try.func24 rfl (by kernel_rfl) (of_decide_eq_true (by kernel_rfl)) ?_
  intro ds hw hok
  replace hw : WtL ((.int .i64) :: (.str :: ([]))) ds := hw
  obtain ⟨version, ds, rfl, h_version, hw⟩ := of_wt_int hw
  obtain ⟨body, ds, rfl, h_body, hw⟩ := of_wt_str hw
  obtain rfl := of_wt_nil hw
  exact ⟨0, ((impl_MakeImage_r 0 version body).trans (impl_MakeImage_c Vm.bad _ version body h_version h_body hok)).trans (by kernel_rfl)⟩

def spec_MakeImage_s : Sum := { ps := [⟨[.int .i64], false⟩, ⟨[.str], false⟩], rs := [⟨[.imm .str], false⟩, ⟨[.imm .bool], false⟩], fn := fun ds => (MakeImage_ok (rI ds 0) (rS ds 1), [.str (MakeImage (rI ds 0) (rS ds 1)).1] ++ [.bool (MakeImage (rI ds 0) (rS ds 1)).2]) }
def spec_MakeImage_G : Ctx := [(49, spec_l01In_s), (54, spec_Word32_s), (55, spec_Crc32_s)]
theorem spec_MakeImage_x : CtxHolds Try.prog spec_MakeImage_G := ctx_cons spec_l01In_h (ctx_cons spec_Word32_h (ctx_cons spec_Crc32_h ctx_nil))
def spec_MakeImage_A : List (Nat × Ann) := []
theorem spec_MakeImage_r (N : Nat) (version : Int) (body : Bytes) : runF Try.prog spec_MakeImage_G spec_MakeImage_A N Try.f23 spec_MakeImage_s (.int version :: (.str body :: ([]))) = spec_MakeImage_t Vm.bad (fun r0 r1 => ((true, [.str r0] ++ [.bool r1]) : Res)) version body := by kernel_rfl
theorem spec_MakeImage_h : Holds Try.prog 23 spec_MakeImage_s := by
  refine holds_of_run (A := spec_MakeImage_A) spec_MakeImage_x Try.func23 rfl (by kernel_rfl) (of_decide_eq_true (by kernel_rfl)) ?_
  intro ds hw hok
  replace hw : WtL ((.int .i64) :: (.str :: ([]))) ds := hw
  obtain ⟨version, ds, rfl, h_version, hw⟩ := of_wt_int hw
  obtain ⟨body, ds, rfl, h_body, hw⟩ := of_wt_str hw
  obtain rfl := of_wt_nil hw
  exact ⟨0, ((spec_MakeImage_r 0 version body).trans (spec_MakeImage_c Vm.bad _ version body h_version h_body hok)).trans (by kernel_rfl)⟩

def laws_FnExactMakeImage_s : Sum := { ps := [⟨[.int .i64], false⟩, ⟨[.str], false⟩], rs := [⟨[.imm .bool], false⟩], fn := fun ds => (fitL ((.int .i64) :: (.str :: ([]))) ds, [.bool true]) }
def laws_FnExactMakeImage_G : Ctx := [(23, spec_MakeImage_s), (24, impl_MakeImage_s)]
theorem laws_FnExactMakeImage_x : CtxHolds Try.prog laws_FnExactMakeImage_G := ctx_cons spec_MakeImage_h (ctx_cons impl_MakeImage_h ctx_nil)
def laws_FnExactMakeImage_A : List (Nat × Ann) := []
theorem laws_FnExactMakeImage_r (N : Nat) (aVersion : Int) (aBody : Bytes) : runF Try.prog laws_FnExactMakeImage_G laws_FnExactMakeImage_A N Try.f5 laws_FnExactMakeImage_s (.int aVersion :: (.str aBody :: ([]))) = laws_FnExactMakeImage_t Vm.bad (fun r0 => ((true, [.bool r0]) : Res)) aVersion aBody := by kernel_rfl
theorem laws_FnExactMakeImage_h : Holds Try.prog 5 laws_FnExactMakeImage_s := by
  refine holds_of_run (A := laws_FnExactMakeImage_A) laws_FnExactMakeImage_x Try.func5 rfl (by kernel_rfl) (of_decide_eq_true (by kernel_rfl)) ?_
  intro ds hw hok
  replace hw : WtL ((.int .i64) :: (.str :: ([]))) ds := hw
  obtain ⟨aVersion, ds, rfl, h_aVersion, hw⟩ := of_wt_int hw
  obtain ⟨aBody, ds, rfl, h_aBody, hw⟩ := of_wt_str hw
  obtain rfl := of_wt_nil hw
  exact ⟨0, ((laws_FnExactMakeImage_r 0 aVersion aBody).trans (laws_FnExactMakeImage_c Vm.bad _ aVersion aBody h_aVersion h_aBody hok)).trans (by kernel_rfl)⟩

def impl_ImageVersion_s : Sum := { ps := [⟨[.str], false⟩], rs := [⟨[.imm (.int .i64)], false⟩], fn := fun ds => (true, [.int (ImageVersion (rS ds 0))]) }
def impl_ImageVersion_G : Ctx := [(24, impl_MakeImage_s), (59, impl_Get32_s)]
theorem impl_ImageVersion_x : CtxHolds Try.prog impl_ImageVersion_G := ctx_cons impl_MakeImage_h (ctx_cons impl_Get32_h ctx_nil)
def impl_ImageVersion_A : List (Nat × Ann) := []
theorem impl_ImageVersion_r (N : Nat) (s : Bytes) : runF Try.prog impl_ImageVersion_G impl_ImageVersion_A N Try.f26 impl_ImageVersion_s (.str s :: ([])) = impl_ImageVersion_t Vm.bad (fun r0 => ((true, [.int r0]) : Res)) s := by kernel_rfl
theorem impl_ImageVersion_h : Holds Try.prog 26 impl_ImageVersion_s := by
  refine holds_of_run (A := impl_ImageVersion_A) impl_ImageVersion_x Try.func26 rfl (by kernel_rfl) (of_decide_eq_true (by kernel_rfl)) ?_
  intro ds hw hok
  replace hw : WtL (.str :: ([])) ds := hw
  obtain ⟨s, ds, rfl, h_s, hw⟩ := of_wt_str hw
  obtain rfl := of_wt_nil hw
  exact ⟨0, ((impl_ImageVersion_r 0 s).trans (impl_ImageVersion_c Vm.bad _ s h_s)).trans (by kernel_rfl)⟩

def spec_ImageVersion_s : Sum := { ps := [⟨[.str], false⟩], rs := [⟨[.imm (.int .i64)], false⟩], fn := fun ds => (true, [.int (ImageVersion (rS ds 0))]) }
def spec_ImageVersion_G : Ctx := [(23, spec_MakeImage_s), (49, spec_l01In_s), (58, spec_Get32_s)]
theorem spec_ImageVersion_x : CtxHolds Try.prog spec_ImageVersion_G := ctx_cons spec_MakeImage_h (ctx_cons spec_l01In_h (ctx_cons spec_Get32_h ctx_nil))
def spec_ImageVersion_A : List (Nat × Ann) := []
theorem spec_ImageVersion_r (N : Nat) (s : Bytes) : runF Try.prog spec_ImageVersion_G spec_ImageVersion_A N Try.f25 spec_ImageVersion_s (.str s :: ([])) = spec_ImageVersion_t Vm.bad (fun r0 => ((true, [.int r0]) : Res)) s := by kernel_rfl
theorem spec_ImageVersion_h : Holds Try.prog 25 spec_ImageVersion_s := by
  refine holds_of_run (A := spec_ImageVersion_A) spec_ImageVersion_x Try.func25 rfl (by kernel_rfl) (of_decide_eq_true (by kernel_rfl)) ?_
  intro ds hw hok
  replace hw : WtL (.str :: ([])) ds := hw
  obtain ⟨s, ds, rfl, h_s, hw⟩ := of_wt_str hw
  obtain rfl := of_wt_nil hw
  exact ⟨0, ((spec_ImageVersion_r 0 s).trans (spec_ImageVersion_c Vm.bad _ s h_s)).trans (by kernel_rfl)⟩

def laws_FnExactImageVersion_s : Sum := { ps := [⟨[.str], false⟩], rs := [⟨[.imm .bool], false⟩], fn := fun ds => (fitL (.str :: ([])) ds, [.bool true]) }
def laws_FnExactImageVersion_G : Ctx := [(25, spec_ImageVersion_s), (26, impl_ImageVersion_s)]
theorem laws_FnExactImageVersion_x : CtxHolds Try.prog laws_FnExactImageVersion_G := ctx_cons spec_ImageVersion_h (ctx_cons impl_ImageVersion_h ctx_nil)
def laws_FnExactImageVersion_A : List (Nat × Ann) := []
theorem laws_FnExactImageVersion_r (N : Nat) (aS : Bytes) : runF Try.prog laws_FnExactImageVersion_G laws_FnExactImageVersion_A N Try.f6 laws_FnExactImageVersion_s (.str aS :: ([])) = laws_FnExactImageVersion_t (fun r0 => ((true, [.bool r0]) : Res)) aS := by kernel_rfl
theorem laws_FnExactImageVersion_h : Holds Try.prog 6 laws_FnExactImageVersion_s := by
  refine holds_of_run (A := laws_FnExactImageVersion_A) laws_FnExactImageVersion_x Try.func6 rfl (by kernel_rfl) (of_decide_eq_true (by kernel_rfl)) ?_
  intro ds hw hok
  replace hw : WtL (.str :: ([])) ds := hw
  obtain ⟨aS, ds, rfl, h_aS, hw⟩ := of_wt_str hw
  obtain rfl := of_wt_nil hw
  exact ⟨0, ((laws_FnExactImageVersion_r 0 aS).trans (laws_FnExactImageVersion_c _ aS h_aS hok)).trans (by kernel_rfl)⟩

def impl_BootBank_s : Sum := { ps := [⟨[.sl [.str]], true⟩], rs := [⟨[.imm (.int .i64)], false⟩], fn := fun ds => (true, [.int (BootBank (SFlash.decAt ds 0))]) }
def impl_BootBank_G : Ctx := [(21, impl_FlashOk_s), (26, impl_ImageVersion_s)]
theorem impl_BootBank_x : CtxHolds Try.prog impl_BootBank_G := ctx_cons impl_FlashOk_h (ctx_cons impl_ImageVersion_h ctx_nil)
def impl_BootBank_A : List (Nat × Ann) := []
theorem impl_BootBank_r (N : Nat) (f : SFlash) : runF Try.prog impl_BootBank_G impl_BootBank_A N Try.f32 impl_BootBank_s (f.enc ++ ([])) = impl_BootBank_t Vm.bad (fun r0 => ((true, [.int r0]) : Res)) f := by kernel_rfl
theorem impl_BootBank_h : Holds Try.prog 32 impl_BootBank_s := by
  refine holds_of_run (A := impl_BootBank_A) impl_BootBank_x Try.func32 rfl (by kernel_rfl) (of_decide_eq_true (by kernel_rfl)) ?_
  intro ds hw hok
  replace hw : WtL (SFlash.ct ++ ([])) ds := hw
  obtain ⟨f, ds, rfl, h_f, hw⟩ := SFlash.of_wt (r := _) hw
  obtain rfl := of_wt_nil hw
  exact ⟨0, ((impl_BootBank_r 0 f).trans (impl_BootBank_c Vm.bad _ f h_f)).trans (by kernel_rfl)⟩

def spec_BootBank_s : Sum := { ps := [⟨[.sl [.str]], true⟩], rs := [⟨[.imm (.int .i64)], false⟩], fn := fun ds => (true, [.int (BootBank (SFlash.decAt ds 0))]) }
def spec_BootBank_G : Ctx := [(19, spec_FlashOk_s), (25, spec_ImageVersion_s)]
theorem spec_BootBank_x : CtxHolds Try.prog spec_BootBank_G := ctx_cons spec_FlashOk_h (ctx_cons spec_ImageVersion_h ctx_nil)
def spec_BootBank_A : List (Nat × Ann) := []
theorem spec_BootBank_r (N : Nat) (f : SFlash) : runF Try.prog spec_BootBank_G spec_BootBank_A N Try.f31 spec_BootBank_s (f.enc ++ ([])) = spec_BootBank_t Vm.bad (fun r0 => ((true, [.int r0]) : Res)) f := by kernel_rfl
theorem spec_BootBank_h : Holds Try.prog 31 spec_BootBank_s := by
  refine holds_of_run (A := spec_BootBank_A) spec_BootBank_x Try.func31 rfl (by kernel_rfl) (of_decide_eq_true (by kernel_rfl)) ?_
  intro ds hw hok
  replace hw : WtL (SFlash.ct ++ ([])) ds := hw
  obtain ⟨f, ds, rfl, h_f, hw⟩ := SFlash.of_wt (r := _) hw
  obtain rfl := of_wt_nil hw
  exact ⟨0, ((spec_BootBank_r 0 f).trans (spec_BootBank_c Vm.bad _ f h_f)).trans (by kernel_rfl)⟩

def laws_FnExactBootBank_s : Sum := { ps := [⟨[.sl [.str]], true⟩], rs := [⟨[.imm .bool], false⟩], fn := fun ds => (fitL (SFlash.ct ++ ([])) ds, [.bool true]) }
def laws_FnExactBootBank_G : Ctx := [(18, laws_szFlash_s), (20, laws_toFlash_s), (22, laws_eqFlash_s), (31, spec_BootBank_s), (32, impl_BootBank_s)]
theorem laws_FnExactBootBank_x : CtxHolds Try.prog laws_FnExactBootBank_G := ctx_cons laws_szFlash_h (ctx_cons laws_toFlash_h (ctx_cons laws_eqFlash_h (ctx_cons spec_BootBank_h (ctx_cons impl_BootBank_h ctx_nil))))
def laws_FnExactBootBank_A : List (Nat × Ann) := []
theorem laws_FnExactBootBank_r (N : Nat) (aF : SFlash) : runF Try.prog laws_FnExactBootBank_G laws_FnExactBootBank_A N Try.f8 laws_FnExactBootBank_s (aF.enc ++ ([])) = laws_FnExactBootBank_t Vm.bad (fun r0 => ((true, [.bool r0]) : Res)) aF := by kernel_rfl
theorem laws_FnExactBootBank_h : Holds Try.prog 8 laws_FnExactBootBank_s := by
  refine holds_of_run (A := laws_FnExactBootBank_A) laws_FnExactBootBank_x Try.func8 rfl (by kernel_rfl) (of_decide_eq_true (by kernel_rfl)) ?_
  intro ds hw hok
  replace hw : WtL (SFlash.ct ++ ([])) ds := hw
  obtain ⟨aF, ds, rfl, h_aF, hw⟩ := SFlash.of_wt (r := _) hw
  obtain rfl := of_wt_nil hw
  exact ⟨0, ((laws_FnExactBootBank_r 0 aF).trans (laws_FnExactBootBank_c Vm.bad _ aF h_aF hok)).trans (by kernel_rfl)⟩

def impl_BootVersion_s : Sum := { ps := [⟨[.sl [.str]], true⟩], rs := [⟨[.imm (.int .i64)], false⟩], fn := fun ds => (true, [.int (BootVersion (SFlash.decAt ds 0))]) }
def impl_BootVersion_G : Ctx := [(26, impl_ImageVersion_s), (32, impl_BootBank_s)]
theorem impl_BootVersion_x : CtxHolds Try.prog impl_BootVersion_G := ctx_cons impl_ImageVersion_h (ctx_cons impl_BootBank_h ctx_nil)
def impl_BootVersion_A : List (Nat × Ann) := []
theorem impl_BootVersion_r (N : Nat) (f : SFlash) : runF Try.prog impl_BootVersion_G impl_BootVersion_A N Try.f38 impl_BootVersion_s (f.enc ++ ([])) = impl_BootVersion_t Vm.bad (fun r0 => ((true, [.int r0]) : Res)) f := by kernel_rfl
theorem impl_BootVersion_h : Holds Try.prog 38 impl_BootVersion_s := by
  refine holds_of_run (A := impl_BootVersion_A) impl_BootVersion_x Try.func38 rfl (by kernel_rfl) (of_decide_eq_true (by kernel_rfl)) ?_
  intro ds hw hok
  replace hw : WtL (SFlash.ct ++ ([])) ds := hw
  obtain ⟨f, ds, rfl, h_f, hw⟩ := SFlash.of_wt (r := _) hw
  obtain rfl := of_wt_nil hw
  exact ⟨0, ((impl_BootVersion_r 0 f).trans (impl_BootVersion_c Vm.bad _ f h_f)).trans (by kernel_rfl)⟩

def spec_BootVersion_s : Sum := { ps := [⟨[.sl [.str]], true⟩], rs := [⟨[.imm (.int .i64)], false⟩], fn := fun ds => (true, [.int (BootVersion (SFlash.decAt ds 0))]) }
def spec_BootVersion_G : Ctx := [(25, spec_ImageVersion_s), (31, spec_BootBank_s)]
theorem spec_BootVersion_x : CtxHolds Try.prog spec_BootVersion_G := ctx_cons spec_ImageVersion_h (ctx_cons spec_BootBank_h ctx_nil)
def spec_BootVersion_A : List (Nat × Ann) := []
theorem spec_BootVersion_r (N : Nat) (f : SFlash) : runF Try.prog spec_BootVersion_G spec_BootVersion_A N Try.f37 spec_BootVersion_s (f.enc ++ ([])) = spec_BootVersion_t Vm.bad (fun r0 => ((true, [.int r0]) : Res)) f := by kernel_rfl
theorem spec_BootVersion_h : Holds Try.prog 37 spec_BootVersion_s := by
  refine holds_of_run (A := spec_BootVersion_A) spec_BootVersion_x Try.func37 rfl (by kernel_rfl) (of_decide_eq_true (by kernel_rfl)) ?_
  intro ds hw hok
  replace hw : WtL (SFlash.ct ++ ([])) ds := hw
  obtain ⟨f, ds, rfl, h_f, hw⟩ := SFlash.of_wt (r := _) hw
  obtain rfl := of_wt_nil hw
  exact ⟨0, ((spec_BootVersion_r 0 f).trans (spec_BootVersion_c Vm.bad _ f h_f)).trans (by kernel_rfl)⟩

def laws_FnExactBootVersion_s : Sum := { ps := [⟨[.sl [.str]], true⟩], rs := [⟨[.imm .bool], false⟩], fn := fun ds => (fitL (SFlash.ct ++ ([])) ds, [.bool true]) }
def laws_FnExactBootVersion_G : Ctx := [(18, laws_szFlash_s), (20, laws_toFlash_s), (22, laws_eqFlash_s), (37, spec_BootVersion_s), (38, impl_BootVersion_s)]
theorem laws_FnExactBootVersion_x : CtxHolds Try.prog laws_FnExactBootVersion_G := ctx_cons laws_szFlash_h (ctx_cons laws_toFlash_h (ctx_cons laws_eqFlash_h (ctx_cons spec_BootVersion_h (ctx_cons impl_BootVersion_h ctx_nil))))
def laws_FnExactBootVersion_A : List (Nat × Ann) := []
theorem laws_FnExactBootVersion_r (N : Nat) (aF : SFlash) : runF Try.prog laws_FnExactBootVersion_G laws_FnExactBootVersion_A N Try.f10 laws_FnExactBootVersion_s (aF.enc ++ ([])) = laws_FnExactBootVersion_t Vm.bad (fun r0 => ((true, [.bool r0]) : Res)) aF := by kernel_rfl
theorem laws_FnExactBootVersion_h : Holds Try.prog 10 laws_FnExactBootVersion_s := by
  refine holds_of_run (A := laws_FnExactBootVersion_A) laws_FnExactBootVersion_x Try.func10 rfl (by kernel_rfl) (of_decide_eq_true (by kernel_rfl)) ?_
  intro ds hw hok
  replace hw : WtL (SFlash.ct ++ ([])) ds := hw
  obtain ⟨aF, ds, rfl, h_aF, hw⟩ := SFlash.of_wt (r := _) hw
  obtain rfl := of_wt_nil hw
  exact ⟨0, ((laws_FnExactBootVersion_r 0 aF).trans (laws_FnExactBootVersion_c Vm.bad _ aF h_aF hok)).trans (by kernel_rfl)⟩

end
end Go.Proofs.Ytjknoknkbfhelaa.Pl
