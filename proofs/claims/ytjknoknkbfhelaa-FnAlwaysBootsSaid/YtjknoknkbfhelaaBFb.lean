/- The contracts of functions of the program: each computes what its plain form says. Conditions: none. -/
import Derived.Test.YtjknoknkbfhelaaPFb
import Derived.Test.YtjknoknkbfhelaaRows
import Derived.Test.YtjknoknkbfhelaaBFa
set_option linter.unusedVariables false
set_option linter.unusedSimpArgs false
set_option maxRecDepth 100000
namespace Go.Proofs.Ytjknoknkbfhelaa.Pl
open Vm
noncomputable section

def impl_MakeImage_s : Sum := { ps := [⟨[.int .i64], false⟩, ⟨[.str], false⟩], rs := [⟨[.imm .str], false⟩, ⟨[.imm .bool], false⟩], fn := fun ds => (MakeImage_ok (rI ds 0) (rS ds 1), [.str (MakeImage (rI ds 0) (rS ds 1)).1] ++ [.bool (MakeImage (rI ds 0) (rS ds 1)).2]) }
def impl_MakeImage_G : Ctx := [(50, impl_between_s), (56, impl_Word32_s), (57, impl_Crc32_s)]
theorem impl_MakeImage_x : CtxHolds Try.prog impl_MakeImage_G := ctx_cons impl_between_h (ctx_cons impl_Word32_h (ctx_cons impl_Crc32_h ctx_nil))
def impl_MakeImage_A : List (Nat × Ann) := []
theorem impl_MakeImage_r (N : Nat) (version : Int) (body : Bytes) : runF Try.prog impl_MakeImage_G impl_MakeImage_A N Try.f24 impl_MakeImage_s (.int version :: (.str body :: ([]))) = impl_MakeImage_t Vm.bad (fun r0 r1 => ((true, [.str r0] ++ [.bool r1]) : Res)) version body := by kernel_rfl
theorem impl_MakeImage_h : Holds Try.prog 24 impl_MakeImage_s := by
  refine holds_of_run (A := impl_MakeImage_A) impl_MakeImage_x Try.func24 rfl (by kernel_rfl) (of_decide_eq_true (by kernel_rfl)) (of_decide_eq_true (by kernel_rfl)) ?_
  intro ds hw hok
  replace hw : WtL ((.int .i64) :: (.str :: ([]))) ds := hw
  obtain ⟨version, ds, rfl, h_version, hw⟩ := of_wt_int hw
  obtain ⟨body, ds, rfl, h_body, hw⟩ := of_wt_str hw
  obtain rfl := of_wt_nil hw
  exact ⟨0, ((impl_MakeImage_r 0 version body).trans (impl_MakeImage_c Vm.bad _ version body h_version h_body hok)).trans (by kernel_rfl)⟩

def spec_MakeImage_s : Sum := { ps := [⟨[.int .i64], false⟩, ⟨[.str], false⟩], rs := [⟨[.imm .str], false⟩, ⟨[.imm .bool], false⟩], fn := fun ds => (MakeImage_ok (rI ds 0) (rS ds 1), [.str (MakeImage (rI ds 0) (rS ds 1)).1] ++ [.bool (MakeImage (rI ds 0) (rS ds 1)).2]) }
def spec_MakeImage_G : Ctx := [(49, spec_l01In_s), (54, spec_Word32_s), (55, spec_Crc32_s)]
theorem spec_MakeImage_x : CtxHolds Try.prog spec_MakeImage_G := ctx_cons spec_l01In_h (ctx_cons spec_Word32_h (ctx_cons spec_Crc32_h ctx_nil))
def spec_MakeImage_A : List (Nat × Ann) := []
theorem spec_MakeImage_r (N : Nat) (version : Int) (body : Bytes) : runF Try.prog spec_MakeImage_G spec_MakeImage_A N Try.f23 spec_MakeImage_s (.int version :: (.str body :: ([]))) = spec_MakeImage_t Vm.bad (fun r0 r1 => ((true, [.str r0] ++ [.bool r1]) : Res)) version body := by kernel_rfl
theorem spec_MakeImage_h : Holds Try.prog 23 spec_MakeImage_s := by
  refine holds_of_run (A := spec_MakeImage_A) spec_MakeImage_x Try.func23 rfl (by kernel_rfl) (of_decide_eq_true (by kernel_rfl)) (of_decide_eq_true (by kernel_rfl)) ?_
  intro ds hw hok
  replace hw : WtL ((.int .i64) :: (.str :: ([]))) ds := hw
  obtain ⟨version, ds, rfl, h_version, hw⟩ := of_wt_int hw
  obtain ⟨body, ds, rfl, h_body, hw⟩ := of_wt_str hw
  obtain rfl := of_wt_nil hw
  exact ⟨0, ((spec_MakeImage_r 0 version body).trans (spec_MakeImage_c Vm.bad _ version body h_version h_body hok)).trans (by kernel_rfl)⟩

def laws_FnExactMakeImage_s : Sum := { ps := [⟨[.int .i64], false⟩, ⟨[.str], false⟩], rs := [⟨[.imm .bool], false⟩], fn := fun ds => (fitL ((.int .i64) :: (.str :: ([]))) ds, [.bool true]) }
def laws_FnExactMakeImage_G : Ctx := [(23, spec_MakeImage_s), (24, impl_MakeImage_s)]
theorem laws_FnExactMakeImage_x : CtxHolds Try.prog laws_FnExactMakeImage_G := ctx_cons spec_MakeImage_h (ctx_cons impl_MakeImage_h ctx_nil)
def laws_FnExactMakeImage_A : List (Nat × Ann) := []
theorem laws_FnExactMakeImage_r (N : Nat) (aVersion : Int) (aBody : Bytes) : runF Try.prog laws_FnExactMakeImage_G laws_FnExactMakeImage_A N Try.f5 laws_FnExactMakeImage_s (.int aVersion :: (.str aBody :: ([]))) = laws_FnExactMakeImage_t Vm.bad (fun r0 => ((true, [.bool r0]) : Res)) aVersion aBody := by kernel_rfl
theorem laws_FnExactMakeImage_h : Holds Try.prog 5 laws_FnExactMakeImage_s := by
  refine holds_of_run (A := laws_FnExactMakeImage_A) laws_FnExactMakeImage_x Try.func5 rfl (by kernel_rfl) (of_decide_eq_true (by kernel_rfl)) (of_decide_eq_true (by kernel_rfl)) ?_
  intro ds hw hok
  replace hw : WtL ((.int .i64) :: (.str :: ([]))) ds := hw
  obtain ⟨aVersion, ds, rfl, h_aVersion, hw⟩ := of_wt_int hw
  obtain ⟨aBody, ds, rfl, h_aBody, hw⟩ := of_wt_str hw
  obtain rfl := of_wt_nil hw
  exact ⟨0, ((laws_FnExactMakeImage_r 0 aVersion aBody).trans (laws_FnExactMakeImage_c Vm.bad _ aVersion aBody h_aVersion h_aBody hok)).trans (by kernel_rfl)⟩

def impl_ImageVersion_s : Sum := { ps := [⟨[.str], false⟩], rs := [⟨[.imm (.int .i64)], false⟩], fn := fun ds => (true, [.int (ImageVersion (rS ds 0))]) }
def impl_ImageVersion_G : Ctx := [(24, impl_MakeImage_s), (59, impl_Get32_s)]
theorem impl_ImageVersion_x : CtxHolds Try.prog impl_ImageVersion_G := ctx_cons impl_MakeImage_h (ctx_cons impl_Get32_h ctx_nil)
def impl_ImageVersion_A : List (Nat × Ann) := []
theorem impl_ImageVersion_r (N : Nat) (s : Bytes) : runF Try.prog impl_ImageVersion_G impl_ImageVersion_A N Try.f26 impl_ImageVersion_s (.str s :: ([])) = impl_ImageVersion_t Vm.bad (fun r0 => ((true, [.int r0]) : Res)) s := by kernel_rfl
theorem impl_ImageVersion_h : Holds Try.prog 26 impl_ImageVersion_s := by
  refine holds_of_run (A := impl_ImageVersion_A) impl_ImageVersion_x Try.func26 rfl (by kernel_rfl) (of_decide_eq_true (by kernel_rfl)) (of_decide_eq_true (by kernel_rfl)) ?_
  intro ds hw hok
  replace hw : WtL (.str :: ([])) ds := hw
  obtain ⟨s, ds, rfl, h_s, hw⟩ := of_wt_str hw
  obtain rfl := of_wt_nil hw
  exact ⟨0, ((impl_ImageVersion_r 0 s).trans (impl_ImageVersion_c Vm.bad _ s h_s)).trans (by kernel_rfl)⟩

def spec_ImageVersion_s : Sum := { ps := [⟨[.str], false⟩], rs := [⟨[.imm (.int .i64)], false⟩], fn := fun ds => (true, [.int (ImageVersion (rS ds 0))]) }
def spec_ImageVersion_G : Ctx := [(23, spec_MakeImage_s), (49, spec_l01In_s), (58, spec_Get32_s)]
theorem spec_ImageVersion_x : CtxHolds Try.prog spec_ImageVersion_G := ctx_cons spec_MakeImage_h (ctx_cons spec_l01In_h (ctx_cons spec_Get32_h ctx_nil))
def spec_ImageVersion_A : List (Nat × Ann) := []
theorem spec_ImageVersion_r (N : Nat) (s : Bytes) : runF Try.prog spec_ImageVersion_G spec_ImageVersion_A N Try.f25 spec_ImageVersion_s (.str s :: ([])) = spec_ImageVersion_t Vm.bad (fun r0 => ((true, [.int r0]) : Res)) s := by kernel_rfl
theorem spec_ImageVersion_h : Holds Try.prog 25 spec_ImageVersion_s := by
  refine holds_of_run (A := spec_ImageVersion_A) spec_ImageVersion_x Try.func25 rfl (by kernel_rfl) (of_decide_eq_true (by kernel_rfl)) (of_decide_eq_true (by kernel_rfl)) ?_
  intro ds hw hok
  replace hw : WtL (.str :: ([])) ds := hw
  obtain ⟨s, ds, rfl, h_s, hw⟩ := of_wt_str hw
  obtain rfl := of_wt_nil hw
  exact ⟨0, ((spec_ImageVersion_r 0 s).trans (spec_ImageVersion_c Vm.bad _ s h_s)).trans (by kernel_rfl)⟩

def laws_FnExactImageVersion_s : Sum := { ps := [⟨[.str], false⟩], rs := [⟨[.imm .bool], false⟩], fn := fun ds => (fitL (.str :: ([])) ds, [.bool true]) }
def laws_FnExactImageVersion_G : Ctx := [(25, spec_ImageVersion_s), (26, impl_ImageVersion_s)]
theorem laws_FnExactImageVersion_x : CtxHolds Try.prog laws_FnExactImageVersion_G := ctx_cons spec_ImageVersion_h (ctx_cons impl_ImageVersion_h ctx_nil)
def laws_FnExactImageVersion_A : List (Nat × Ann) := []
theorem laws_FnExactImageVersion_r (N : Nat) (aS : Bytes) : runF Try.prog laws_FnExactImageVersion_G laws_FnExactImageVersion_A N Try.f6 laws_FnExactImageVersion_s (.str aS :: ([])) = laws_FnExactImageVersion_t (fun r0 => ((true, [.bool r0]) : Res)) aS := by kernel_rfl
theorem laws_FnExactImageVersion_h : Holds Try.prog 6 laws_FnExactImageVersion_s := by
  refine holds_of_run (A := laws_FnExactImageVersion_A) laws_FnExactImageVersion_x Try.func6 rfl (by kernel_rfl) (of_decide_eq_true (by kernel_rfl)) (of_decide_eq_true (by kernel_rfl)) ?_
  intro ds hw hok
  replace hw : WtL (.str :: ([])) ds := hw
  obtain ⟨aS, ds, rfl, h_aS, hw⟩ := of_wt_str hw
  obtain rfl := of_wt_nil hw
  exact ⟨0, ((laws_FnExactImageVersion_r 0 aS).trans (laws_FnExactImageVersion_c _ aS h_aS hok)).trans (by kernel_rfl)⟩

def impl_BootBank_s : Sum := { ps := [⟨[.sl [.str]], true⟩], rs := [⟨[.imm (.int .i64)], false⟩], fn := fun ds => (true, [.int (BootBank (SFlash.decAt ds 0))]) }
def impl_BootBank_G : Ctx := [(21, impl_FlashOk_s), (26, impl_ImageVersion_s)]
theorem impl_BootBank_x : CtxHolds Try.prog impl_BootBank_G := ctx_cons impl_FlashOk_h (ctx_cons impl_ImageVersion_h ctx_nil)
def impl_BootBank_A : List (Nat × Ann) := []
theorem impl_BootBank_r (N : Nat) (f : SFlash) : runF Try.prog impl_BootBank_G impl_BootBank_A N Try.f32 impl_BootBank_s (f.enc ++ ([])) = impl_BootBank_t Vm.bad (fun r0 => ((true, [.int r0]) : Res)) f := by kernel_rfl
theorem impl_BootBank_h : Holds Try.prog 32 impl_BootBank_s := by
  refine holds_of_run (A := impl_BootBank_A) impl_BootBank_x Try.func32 rfl (by kernel_rfl) (of_decide_eq_true (by kernel_rfl)) (of_decide_eq_true (by kernel_rfl)) ?_
  intro ds hw hok
  replace hw : WtL (SFlash.ct ++ ([])) ds := hw
  obtain ⟨f, ds, rfl, h_f, hw⟩ := SFlash.of_wt (r := _) hw
  obtain rfl := of_wt_nil hw
  exact ⟨0, ((impl_BootBank_r 0 f).trans (impl_BootBank_c Vm.bad _ f h_f)).trans (by kernel_rfl)⟩

def spec_BootBank_s : Sum := { ps := [⟨[.sl [.str]], true⟩], rs := [⟨[.imm (.int .i64)], false⟩], fn := fun ds => (true, [.int (BootBank (SFlash.decAt ds 0))]) }
def spec_BootBank_G : Ctx := [(19, spec_FlashOk_s), (25, spec_ImageVersion_s)]
theorem spec_BootBank_x : CtxHolds Try.prog spec_BootBank_G := ctx_cons spec_FlashOk_h (ctx_cons spec_ImageVersion_h ctx_nil)
def spec_BootBank_A : List (Nat × Ann) := []
theorem spec_BootBank_r (N : Nat) (f : SFlash) : runF Try.prog spec_BootBank_G spec_BootBank_A N Try.f31 spec_BootBank_s (f.enc ++ ([])) = spec_BootBank_t Vm.bad (fun r0 => ((true, [.int r0]) : Res)) f := by kernel_rfl
theorem spec_BootBank_h : Holds Try.prog 31 spec_BootBank_s := by
  refine holds_of_run (A := spec_BootBank_A) spec_BootBank_x Try.func31 rfl (by kernel_rfl) (of_decide_eq_true (by kernel_rfl)) (of_decide_eq_true (by kernel_rfl)) ?_
  intro ds hw hok
  replace hw : WtL (SFlash.ct ++ ([])) ds := hw
  obtain ⟨f, ds, rfl, h_f, hw⟩ := SFlash.of_wt (r := _) hw
  obtain rfl := of_wt_nil hw
  exact ⟨0, ((spec_BootBank_r 0 f).trans (spec_BootBank_c Vm.bad _ f h_f)).trans (by kernel_rfl)⟩

def laws_FnExactBootBank_s : Sum := { ps := [⟨[.sl [.str]], true⟩], rs := [⟨[.imm .bool], false⟩], fn := fun ds => (fitL (SFlash.ct ++ ([])) ds, [.bool true]) }
def laws_FnExactBootBank_G : Ctx := [(18, laws_szFlash_s), (20, laws_toFlash_s), (22, laws_eqFlash_s), (31, spec_BootBank_s), (32, impl_BootBank_s)]
theorem laws_FnExactBootBank_x : CtxHolds Try.prog laws_FnExactBootBank_G := ctx_cons laws_szFlash_h (ctx_cons laws_toFlash_h (ctx_cons laws_eqFlash_h (ctx_cons spec_BootBank_h (ctx_cons impl_BootBank_h ctx_nil))))
def laws_FnExactBootBank_A : List (Nat × Ann) := []
theorem laws_FnExactBootBank_r (N : Nat) (aF : SFlash) : runF Try.prog laws_FnExactBootBank_G laws_FnExactBootBank_A N Try.f8 laws_FnExactBootBank_s (aF.enc ++ ([])) = laws_FnExactBootBank_t Vm.bad (fun r0 => ((true, [.bool r0]) : Res)) aF := by kernel_rfl
theorem laws_FnExactBootBank_h : Holds Try.prog 8 laws_FnExactBootBank_s := by
  refine holds_of_run (A := laws_FnExactBootBank_A) laws_FnExactBootBank_x Try.func8 rfl (by kernel_rfl) (of_decide_eq_true (by kernel_rfl)) (of_decide_eq_true (by kernel_rfl)) ?_
  intro ds hw hok
  replace hw : WtL (SFlash.ct ++ ([])) ds := hw
  obtain ⟨aF, ds, rfl, h_aF, hw⟩ := SFlash.of_wt (r := _) hw
  obtain rfl := of_wt_nil hw
  exact ⟨0, ((laws_FnExactBootBank_r 0 aF).trans (laws_FnExactBootBank_c Vm.bad _ aF h_aF hok)).trans (by kernel_rfl)⟩

def impl_BootVersion_s : Sum := { ps := [⟨[.sl [.str]], true⟩], rs := [⟨[.imm (.int .i64)], false⟩], fn := fun ds => (true, [.int (BootVersion (SFlash.decAt ds 0))]) }
def impl_BootVersion_G : Ctx := [(26, impl_ImageVersion_s), (32, impl_BootBank_s)]
theorem impl_BootVersion_x : CtxHolds Try.prog impl_BootVersion_G := ctx_cons impl_ImageVersion_h (ctx_cons impl_BootBank_h ctx_nil)
def impl_BootVersion_A : List (Nat × Ann) := []
theorem impl_BootVersion_r (N : Nat) (f : SFlash) : runF Try.prog impl_BootVersion_G impl_BootVersion_A N Try.f38 impl_BootVersion_s (f.enc ++ ([])) = impl_BootVersion_t Vm.bad (fun r0 => ((true, [.int r0]) : Res)) f := by kernel_rfl
theorem impl_BootVersion_h : Holds Try.prog 38 impl_BootVersion_s := by
  refine holds_of_run (A := impl_BootVersion_A) impl_BootVersion_x Try.func38 rfl (by kernel_rfl) (of_decide_eq_true (by kernel_rfl)) (of_decide_eq_true (by kernel_rfl)) ?_
  intro ds hw hok
  replace hw : WtL (SFlash.ct ++ ([])) ds := hw
  obtain ⟨f, ds, rfl, h_f, hw⟩ := SFlash.of_wt (r := _) hw
  obtain rfl := of_wt_nil hw
  exact ⟨0, ((impl_BootVersion_r 0 f).trans (impl_BootVersion_c Vm.bad _ f h_f)).trans (by kernel_rfl)⟩

def spec_BootVersion_s : Sum := { ps := [⟨[.sl [.str]], true⟩], rs := [⟨[.imm (.int .i64)], false⟩], fn := fun ds => (true, [.int (BootVersion (SFlash.decAt ds 0))]) }
def spec_BootVersion_G : Ctx := [(25, spec_ImageVersion_s), (31, spec_BootBank_s)]
theorem spec_BootVersion_x : CtxHolds Try.prog spec_BootVersion_G := ctx_cons spec_ImageVersion_h (ctx_cons spec_BootBank_h ctx_nil)
def spec_BootVersion_A : List (Nat × Ann) := []
theorem spec_BootVersion_r (N : Nat) (f : SFlash) : runF Try.prog spec_BootVersion_G spec_BootVersion_A N Try.f37 spec_BootVersion_s (f.enc ++ ([])) = spec_BootVersion_t Vm.bad (fun r0 => ((true, [.int r0]) : Res)) f := by kernel_rfl
theorem spec_BootVersion_h : Holds Try.prog 37 spec_BootVersion_s := by
  refine holds_of_run (A := spec_BootVersion_A) spec_BootVersion_x Try.func37 rfl (by kernel_rfl) (of_decide_eq_true (by kernel_rfl)) (of_decide_eq_true (by kernel_rfl)) ?_
  intro ds hw hok
  replace hw : WtL (SFlash.ct ++ ([])) ds := hw
  obtain ⟨f, ds, rfl, h_f, hw⟩ := SFlash.of_wt (r := _) hw
  obtain rfl := of_wt_nil hw
  exact ⟨0, ((spec_BootVersion_r 0 f).trans (spec_BootVersion_c Vm.bad _ f h_f)).trans (by kernel_rfl)⟩

def laws_FnExactBootVersion_s : Sum := { ps := [⟨[.sl [.str]], true⟩], rs := [⟨[.imm .bool], false⟩], fn := fun ds => (fitL (SFlash.ct ++ ([])) ds, [.bool true]) }
def laws_FnExactBootVersion_G : Ctx := [(18, laws_szFlash_s), (20, laws_toFlash_s), (22, laws_eqFlash_s), (37, spec_BootVersion_s), (38, impl_BootVersion_s)]
theorem laws_FnExactBootVersion_x : CtxHolds Try.prog laws_FnExactBootVersion_G := ctx_cons laws_szFlash_h (ctx_cons laws_toFlash_h (ctx_cons laws_eqFlash_h (ctx_cons spec_BootVersion_h (ctx_cons impl_BootVersion_h ctx_nil))))
def laws_FnExactBootVersion_A : List (Nat × Ann) := []
theorem laws_FnExactBootVersion_r (N : Nat) (aF : SFlash) : runF Try.prog laws_FnExactBootVersion_G laws_FnExactBootVersion_A N Try.f10 laws_FnExactBootVersion_s (aF.enc ++ ([])) = laws_FnExactBootVersion_t Vm.bad (fun r0 => ((true, [.bool r0]) : Res)) aF := by kernel_rfl
theorem laws_FnExactBootVersion_h : Holds Try.prog 10 laws_FnExactBootVersion_s := by
  refine holds_of_run (A := laws_FnExactBootVersion_A) laws_FnExactBootVersion_x Try.func10 rfl (by kernel_rfl) (of_decide_eq_true (by kernel_rfl)) (of_decide_eq_true (by kernel_rfl)) ?_
  intro ds hw hok
  replace hw : WtL (SFlash.ct ++ ([])) ds := hw
  obtain ⟨aF, ds, rfl, h_aF, hw⟩ := SFlash.of_wt (r := _) hw
  obtain rfl := of_wt_nil hw
  exact ⟨0, ((laws_FnExactBootVersion_r 0 aF).trans (laws_FnExactBootVersion_c Vm.bad _ aF h_aF hok)).trans (by kernel_rfl)⟩

def laws_markFlash_s : Sum := { ps := [⟨[.sl [.str]], true⟩, ⟨[.int .i64], false⟩], rs := [⟨[.imm (.int .i64)], false⟩], fn := fun ds => (markFlash_ok (SFlash.decAt ds 0) (rI ds 1), [.int (markFlash (SFlash.decAt ds 0) (rI ds 1)).1] ++ [.sl (markFlash (SFlash.decAt ds 0) (rI ds 1)).2]), ms := [some (.rows [9]), none] }
def laws_markFlash_G : Ctx := [(65, laws_markStringS_s)]
theorem laws_markFlash_x : CtxHolds Try.prog laws_markFlash_G := ctx_cons laws_markStringS_h ctx_nil
def laws_markFlash_A : List (Nat × Ann) := []
theorem laws_markFlash_r (N : Nat) (a : SFlash) (k : Int) : runFM Try.prog laws_markFlash_G laws_markFlash_A N Try.f35 laws_markFlash_s (a.enc ++ (.int k :: ([]))) = laws_markFlash_t Vm.bad (fun r0 r1 => ((true, [.int r0] ++ [.sl r1]) : Res)) a k := by kernel_rfl
theorem laws_markFlash_h : HoldsM Try.prog 35 laws_markFlash_s := by
  refine holdsM_of_run (A := laws_markFlash_A) laws_markFlash_x Try.func35 rfl (by kernel_rfl) (of_decide_eq_true (by kernel_rfl)) (of_decide_eq_true (by kernel_rfl)) (by kernel_rfl) (fun ds => by kernel_rfl) ?_
  intro ds hw hok
  replace hw : WtL (SFlash.ct ++ ((.int .i64) :: ([]))) ds := hw
  obtain ⟨a, ds, rfl, h_a, hw⟩ := SFlash.of_wt (r := _) hw
  obtain ⟨k, ds, rfl, h_k, hw⟩ := of_wt_int hw
  obtain rfl := of_wt_nil hw
  exact ⟨0, ((laws_markFlash_r 0 a k).trans (laws_markFlash_c Vm.bad _ a k hok)).trans (by kernel_rfl)⟩

def laws_heldFlash_s : Sum := { ps := [⟨[.sl [.str]], true⟩, ⟨[.int .i64], false⟩], rs := [⟨[.imm (.int .i64)], false⟩], fn := fun ds => (heldFlash_ok (SFlash.decAt ds 0) (rI ds 1), [.int (heldFlash (SFlash.decAt ds 0) (rI ds 1))]) }
def laws_heldFlash_G : Ctx := [(66, laws_heldStringS_s)]
theorem laws_heldFlash_x : CtxHolds Try.prog laws_heldFlash_G := ctx_cons laws_heldStringS_h ctx_nil
def laws_heldFlash_A : List (Nat × Ann) := []
theorem laws_heldFlash_r (N : Nat) (a : SFlash) (k : Int) : runF Try.prog laws_heldFlash_G laws_heldFlash_A N Try.f36 laws_heldFlash_s (a.enc ++ (.int k :: ([]))) = laws_heldFlash_t Vm.bad (fun r0 => ((true, [.int r0]) : Res)) a k := by kernel_rfl
theorem laws_heldFlash_h : Holds Try.prog 36 laws_heldFlash_s := by
  refine holds_of_run (A := laws_heldFlash_A) laws_heldFlash_x Try.func36 rfl (by kernel_rfl) (of_decide_eq_true (by kernel_rfl)) (of_decide_eq_true (by kernel_rfl)) ?_
  intro ds hw hok
  replace hw : WtL (SFlash.ct ++ ((.int .i64) :: ([]))) ds := hw
  obtain ⟨a, ds, rfl, h_a, hw⟩ := SFlash.of_wt (r := _) hw
  obtain ⟨k, ds, rfl, h_k, hw⟩ := of_wt_int hw
  obtain rfl := of_wt_nil hw
  exact ⟨0, ((laws_heldFlash_r 0 a k).trans (laws_heldFlash_c Vm.bad _ a k hok)).trans (by kernel_rfl)⟩

def impl_UpdateSteps_s : Sum := { ps := [⟨[.sl [.str]], true⟩, ⟨[.str], false⟩], rs := [⟨[.own 26 [.int .i64, .int .i64, .int .i64, .str]], false⟩], fn := fun ds => (true, [.sl (UpdateSteps (SFlash.decAt ds 0) (rS ds 1))]) }
def impl_UpdateSteps_G : Ctx := [(21, impl_FlashOk_s), (26, impl_ImageVersion_s), (32, impl_BootBank_s)]
theorem impl_UpdateSteps_x : CtxHolds Try.prog impl_UpdateSteps_G := ctx_cons impl_FlashOk_h (ctx_cons impl_ImageVersion_h (ctx_cons impl_BootBank_h ctx_nil))
def impl_UpdateSteps_A : List (Nat × Ann) := [(8, { slots := [(1, .asis), (5, .asis), (6, .asis), (7, .asis)], boxes := [(128, [])] })]
def impl_UpdateSteps_K : Rows → Res := (fun r0 => ((true, [.sl r0]) : Res))
def impl_UpdateSteps_m0 (image : Bytes) (bank : Int) (at_ : Int) (f_1 : Rows) (out_ : Rows) : St := { n := 57, sl := [(1, .str image), (5, .int .i64 bank), (6, .own 640384), (7, .int .i64 at_)], hp := [(128, .box 34 [.sl [.str] f_1]), (640384, .row 26 [.int .i64, .int .i64, .int .i64, .str] out_ false true)], ok := true, ls := [], lm := [] }
noncomputable def impl_UpdateSteps_B0 (N : Nat) : (St → Res) → St → Res := loopB Try.prog impl_UpdateSteps_G impl_UpdateSteps_A N Try.f46 impl_UpdateSteps_s [true, true, true, true, true, false, true, false] []
theorem impl_UpdateSteps_b0 (N : Nat) (image : Bytes) (bank : Int) (f_1 : Rows) (ih : St → Res) (at_ : Int) (out_ : Rows) : impl_UpdateSteps_B0 N ih (impl_UpdateSteps_m0 image bank at_ f_1 out_) = impl_UpdateSteps_l0 Vm.bad impl_UpdateSteps_K image bank (fun at_ out_ => ih (impl_UpdateSteps_m0 image bank at_ f_1 out_)) at_ out_ := by kernel_rfl
theorem impl_UpdateSteps_n0 (N : Nat) (image : Bytes) (bank : Int) (f_1 : Rows) (m_ : Nat) : (fun at_ out_ => loopN (impl_UpdateSteps_B0 N) m_ (impl_UpdateSteps_m0 image bank at_ f_1 out_)) = impl_UpdateSteps_L0 Vm.bad impl_UpdateSteps_K N image bank m_ := by
  induction m_ with
  | zero => rfl
  | succ m_ ih =>
    funext at_ out_
    show impl_UpdateSteps_B0 N (loopN (impl_UpdateSteps_B0 N) m_) (impl_UpdateSteps_m0 image bank at_ f_1 out_) = _
    rw [impl_UpdateSteps_b0 N image bank f_1]
    rw [ih]
    rfl
theorem impl_UpdateSteps_r (N : Nat) (f : SFlash) (image : Bytes) : runF Try.prog impl_UpdateSteps_G impl_UpdateSteps_A N Try.f46 impl_UpdateSteps_s (f.enc ++ (.str image :: ([]))) = impl_UpdateSteps_f Vm.bad impl_UpdateSteps_K N f image := by
  have h : runF Try.prog impl_UpdateSteps_G impl_UpdateSteps_A N Try.f46 impl_UpdateSteps_s (f.enc ++ (.str image :: ([]))) = impl_UpdateSteps_t Vm.bad impl_UpdateSteps_K (fun bank at_ out_ => loopN (impl_UpdateSteps_B0 N) N (impl_UpdateSteps_m0 image bank at_ f.Banks out_)) f image := by kernel_rfl
  refine h.trans ?_
  unfold impl_UpdateSteps_f
  have e0 : (fun bank at_ out_ => loopN (impl_UpdateSteps_B0 N) N (impl_UpdateSteps_m0 image bank at_ f.Banks out_)) = (fun bank => impl_UpdateSteps_L0 Vm.bad impl_UpdateSteps_K N image bank N) := by
    funext bank
    exact impl_UpdateSteps_n0 N image bank f.Banks N
  exact congrArg (fun l_ => impl_UpdateSteps_t Vm.bad impl_UpdateSteps_K l_ f image) e0
theorem impl_UpdateSteps_h : Holds Try.prog 46 impl_UpdateSteps_s := by
  refine holds_of_run (A := impl_UpdateSteps_A) impl_UpdateSteps_x Try.func46 rfl (by kernel_rfl) (of_decide_eq_true (by kernel_rfl)) (of_decide_eq_true (by kernel_rfl)) ?_
  intro ds hw hok
  replace hw : WtL (SFlash.ct ++ (.str :: ([]))) ds := hw
  obtain ⟨f, ds, rfl, h_f, hw⟩ := SFlash.of_wt (r := _) hw
  obtain ⟨image, ds, rfl, h_image, hw⟩ := of_wt_str hw
  obtain rfl := of_wt_nil hw
  obtain ⟨N, hN⟩ := impl_UpdateSteps_c Vm.bad impl_UpdateSteps_K f image h_f h_image
  exact ⟨N, ((impl_UpdateSteps_r N f image).trans hN).trans (by kernel_rfl)⟩

def spec_UpdateSteps_s : Sum := { ps := [⟨[.sl [.str]], true⟩, ⟨[.str], false⟩], rs := [⟨[.own 26 [.int .i64, .int .i64, .int .i64, .str]], false⟩], fn := fun ds => (true, [.sl (UpdateSteps (SFlash.decAt ds 0) (rS ds 1))]) }
def spec_UpdateSteps_G : Ctx := [(19, spec_FlashOk_s), (25, spec_ImageVersion_s), (31, spec_BootBank_s)]
theorem spec_UpdateSteps_x : CtxHolds Try.prog spec_UpdateSteps_G := ctx_cons spec_FlashOk_h (ctx_cons spec_ImageVersion_h (ctx_cons spec_BootBank_h ctx_nil))
def spec_UpdateSteps_A : List (Nat × Ann) := [(9, { slots := [(1, .asis), (5, .asis), (6, .asis), (7, .asis)], boxes := [(128, [])] })]
def spec_UpdateSteps_K : Rows → Res := (fun r0 => ((true, [.sl r0]) : Res))
def spec_UpdateSteps_m0 (image : Bytes) (b : Int) (at_ : Int) (f_1 : Rows) (out_ : Rows) : St := { n := 58, sl := [(1, .str image), (5, .own 640320), (6, .int .i64 b), (7, .int .i64 at_)], hp := [(128, .box 34 [.sl [.str] f_1]), (640320, .row 26 [.int .i64, .int .i64, .int .i64, .str] out_ false true)], ok := true, ls := [], lm := [] }
noncomputable def spec_UpdateSteps_B0 (N : Nat) : (St → Res) → St → Res := loopB Try.prog spec_UpdateSteps_G spec_UpdateSteps_A N Try.f47 spec_UpdateSteps_s [true, true, true, true, true, true, false, true, false] []
theorem spec_UpdateSteps_b0 (N : Nat) (image : Bytes) (b : Int) (f_1 : Rows) (ih : St → Res) (at_ : Int) (out_ : Rows) : spec_UpdateSteps_B0 N ih (spec_UpdateSteps_m0 image b at_ f_1 out_) = spec_UpdateSteps_l0 Vm.bad spec_UpdateSteps_K image b (fun at_ out_ => ih (spec_UpdateSteps_m0 image b at_ f_1 out_)) at_ out_ := by kernel_rfl
theorem spec_UpdateSteps_n0 (N : Nat) (image : Bytes) (b : Int) (f_1 : Rows) (m_ : Nat) : (fun at_ out_ => loopN (spec_UpdateSteps_B0 N) m_ (spec_UpdateSteps_m0 image b at_ f_1 out_)) = spec_UpdateSteps_L0 Vm.bad spec_UpdateSteps_K N image b m_ := by
  induction m_ with
  | zero => rfl
  | succ m_ ih =>
    funext at_ out_
    show spec_UpdateSteps_B0 N (loopN (spec_UpdateSteps_B0 N) m_) (spec_UpdateSteps_m0 image b at_ f_1 out_) = _
    rw [spec_UpdateSteps_b0 N image b f_1]
    rw [ih]
    rfl
theorem spec_UpdateSteps_r (N : Nat) (f : SFlash) (image : Bytes) : runF Try.prog spec_UpdateSteps_G spec_UpdateSteps_A N Try.f47 spec_UpdateSteps_s (f.enc ++ (.str image :: ([]))) = spec_UpdateSteps_f Vm.bad spec_UpdateSteps_K N f image := by
  have h : runF Try.prog spec_UpdateSteps_G spec_UpdateSteps_A N Try.f47 spec_UpdateSteps_s (f.enc ++ (.str image :: ([]))) = spec_UpdateSteps_t Vm.bad spec_UpdateSteps_K (fun b at_ out_ => loopN (spec_UpdateSteps_B0 N) N (spec_UpdateSteps_m0 image b at_ f.Banks out_)) f image := by kernel_rfl
  refine h.trans ?_
  unfold spec_UpdateSteps_f
  have e0 : (fun b at_ out_ => loopN (spec_UpdateSteps_B0 N) N (spec_UpdateSteps_m0 image b at_ f.Banks out_)) = (fun b => spec_UpdateSteps_L0 Vm.bad spec_UpdateSteps_K N image b N) := by
    funext b
    exact spec_UpdateSteps_n0 N image b f.Banks N
  exact congrArg (fun l_ => spec_UpdateSteps_t Vm.bad spec_UpdateSteps_K l_ f image) e0
theorem spec_UpdateSteps_h : Holds Try.prog 47 spec_UpdateSteps_s := by
  refine holds_of_run (A := spec_UpdateSteps_A) spec_UpdateSteps_x Try.func47 rfl (by kernel_rfl) (of_decide_eq_true (by kernel_rfl)) (of_decide_eq_true (by kernel_rfl)) ?_
  intro ds hw hok
  replace hw : WtL (SFlash.ct ++ (.str :: ([]))) ds := hw
  obtain ⟨f, ds, rfl, h_f, hw⟩ := SFlash.of_wt (r := _) hw
  obtain ⟨image, ds, rfl, h_image, hw⟩ := of_wt_str hw
  obtain rfl := of_wt_nil hw
  obtain ⟨N, hN⟩ := spec_UpdateSteps_c Vm.bad spec_UpdateSteps_K f image h_f h_image
  exact ⟨N, ((spec_UpdateSteps_r N f image).trans hN).trans (by kernel_rfl)⟩

def laws_FnExactUpdateSteps_s : Sum := { ps := [⟨[.sl [.str]], true⟩, ⟨[.str], false⟩], rs := [⟨[.imm .bool], false⟩], fn := fun ds => (fitL (SFlash.ct ++ (.str :: ([]))) ds, [.bool true]) }
def laws_FnExactUpdateSteps_G : Ctx := [(18, laws_szFlash_s), (20, laws_toFlash_s), (22, laws_eqFlash_s), (35, laws_markFlash_s), (43, laws_eqFlashStepS_s), (44, laws_markFlashStepS_s), (46, impl_UpdateSteps_s), (47, spec_UpdateSteps_s), (48, laws_heldFlashStepS_s)]
theorem laws_FnExactUpdateSteps_x : CtxHolds Try.prog laws_FnExactUpdateSteps_G := ctx_cons laws_szFlash_h (ctx_cons laws_toFlash_h (ctx_cons laws_eqFlash_h (ctx_cons laws_markFlash_h (ctx_cons laws_eqFlashStepS_h (ctx_cons laws_markFlashStepS_h (ctx_cons impl_UpdateSteps_h (ctx_cons spec_UpdateSteps_h (ctx_cons laws_heldFlashStepS_h ctx_nil))))))))
def laws_FnExactUpdateSteps_A : List (Nat × Ann) := []
theorem laws_FnExactUpdateSteps_r (N : Nat) (aF : SFlash) (aImage : Bytes) : runF Try.prog laws_FnExactUpdateSteps_G laws_FnExactUpdateSteps_A N Try.f13 laws_FnExactUpdateSteps_s (aF.enc ++ (.str aImage :: ([]))) = laws_FnExactUpdateSteps_t Vm.bad (fun r0 => ((true, [.bool r0]) : Res)) aF aImage := by kernel_rfl
theorem laws_FnExactUpdateSteps_h : Holds Try.prog 13 laws_FnExactUpdateSteps_s := by
  refine holds_of_run (A := laws_FnExactUpdateSteps_A) laws_FnExactUpdateSteps_x Try.func13 rfl (by kernel_rfl) (of_decide_eq_true (by kernel_rfl)) (of_decide_eq_true (by kernel_rfl)) ?_
  intro ds hw hok
  replace hw : WtL (SFlash.ct ++ (.str :: ([]))) ds := hw
  obtain ⟨aF, ds, rfl, h_aF, hw⟩ := SFlash.of_wt (r := _) hw
  obtain ⟨aImage, ds, rfl, h_aImage, hw⟩ := of_wt_str hw
  obtain rfl := of_wt_nil hw
  exact ⟨0, ((laws_FnExactUpdateSteps_r 0 aF aImage).trans (laws_FnExactUpdateSteps_c Vm.bad _ aF aImage h_aF h_aImage hok)).trans (by kernel_rfl)⟩

end
end Go.Proofs.Ytjknoknkbfhelaa.Pl
