/- The contracts of functions of the program: each computes what its plain form says. Conditions: none. -/
import Derived.Test.YtjknoknkbfhelaaPFc
import Derived.Test.YtjknoknkbfhelaaRows
import Derived.Test.YtjknoknkbfhelaaBFb
set_option linter.unusedVariables false
set_option linter.unusedSimpArgs false
set_option maxRecDepth 100000
namespace Go.Proofs.Ytjknoknkbfhelaa.Pl
open Vm
noncomputable section

def impl_copyStrings_s : Sum := { ps := [⟨[.sl [.str]], false⟩], rs := [⟨[.own 9 [.str]], false⟩], fn := fun ds => (sm (rR ds 0), [.sl (idf (rR ds 0))]) }
def impl_copyStrings_G : Ctx := []
theorem impl_copyStrings_x : CtxHolds Try.prog impl_copyStrings_G := ctx_nil
def impl_copyStrings_A : List (Nat × Ann) := []
theorem impl_copyStrings_r (N : Nat) (l : Rows) : runF Try.prog impl_copyStrings_G impl_copyStrings_A N Try.f76 impl_copyStrings_s (.sl l :: ([])) = impl_copyStrings_t Vm.bad (fun r0 => ((true, [.sl r0]) : Res)) l := by kernel_rfl
theorem impl_copyStrings_h : Holds Try.prog 76 impl_copyStrings_s := by
  refine holds_of_run (A := impl_copyStrings_A) impl_copyStrings_x Try.func76 rfl (by kernel_rfl) (of_decide_eq_true (by kernel_rfl)) (of_decide_eq_true (by kernel_rfl)) ?_
  intro ds hw hok
  replace hw : WtL ((.sl [.str]) :: ([])) ds := hw
  obtain ⟨l, ds, rfl, h_l, hw⟩ := of_wt_sl hw
  obtain rfl := of_wt_nil hw
  exact ⟨0, ((impl_copyStrings_r 0 l).trans (impl_copyStrings_c Vm.bad _ l h_l hok)).trans (by kernel_rfl)⟩

def impl_copyFlash_s : Sum := { ps := [⟨[.sl [.str]], true⟩], rs := [⟨[.own 9 [.str]], true⟩], fn := fun ds => (flSm (SFlash.decAt ds 0), SFlash.enc (idf (SFlash.decAt ds 0))) }
def impl_copyFlash_G : Ctx := [(76, impl_copyStrings_s)]
theorem impl_copyFlash_x : CtxHolds Try.prog impl_copyFlash_G := ctx_cons impl_copyStrings_h ctx_nil
def impl_copyFlash_A : List (Nat × Ann) := []
theorem impl_copyFlash_r (N : Nat) (f : SFlash) : runF Try.prog impl_copyFlash_G impl_copyFlash_A N Try.f64 impl_copyFlash_s (f.enc ++ ([])) = impl_copyFlash_t Vm.bad (fun r0 => ((true, SFlash.enc r0) : Res)) f := by kernel_rfl
theorem impl_copyFlash_h : Holds Try.prog 64 impl_copyFlash_s := by
  refine holds_of_run (A := impl_copyFlash_A) impl_copyFlash_x Try.func64 rfl (by kernel_rfl) (of_decide_eq_true (by kernel_rfl)) (of_decide_eq_true (by kernel_rfl)) ?_
  intro ds hw hok
  replace hw : WtL (SFlash.ct ++ ([])) ds := hw
  obtain ⟨f, ds, rfl, h_f, hw⟩ := SFlash.of_wt (r := _) hw
  obtain rfl := of_wt_nil hw
  exact ⟨0, ((impl_copyFlash_r 0 f).trans (impl_copyFlash_c Vm.bad _ f h_f hok)).trans (by kernel_rfl)⟩

def impl_DoFlashStep_s : Sum := { ps := [⟨[.sl [.str]], true⟩, ⟨[.int .i64, .int .i64, .int .i64, .str], true⟩, ⟨[.int .i64], false⟩], rs := [⟨[.own 9 [.str]], true⟩], fn := fun ds => (DoFlashStep_ok (SFlash.decAt ds 0) (SFlashStep.decAt ds 1) (rI ds 5), SFlash.enc (DoFlashStep (SFlash.decAt ds 0) (SFlashStep.decAt ds 1) (rI ds 5))) }
def impl_DoFlashStep_G : Ctx := [(17, impl_FlashStepOk_s), (21, impl_FlashOk_s), (64, impl_copyFlash_s)]
theorem impl_DoFlashStep_x : CtxHolds Try.prog impl_DoFlashStep_G := ctx_cons impl_FlashStepOk_h (ctx_cons impl_FlashOk_h (ctx_cons impl_copyFlash_h ctx_nil))
def impl_DoFlashStep_A : List (Nat × Ann) := [(7, { slots := [(2, .asis), (4, .asis), (6, .asis), (7, .asis), (8, .asis), (9, .asis)], boxes := [(192, []), (256, []), (384, []), (448, [])] }), (11, { slots := [(2, .asis), (4, .asis), (6, .asis), (7, .asis), (8, .asis), (10, .asis)], boxes := [(192, []), (256, []), (384, []), (448, [])] })]
def impl_DoFlashStep_K : SFlash → Res := (fun r0 => ((true, SFlash.enc r0) : Res))
def impl_DoFlashStep_m0 (part : Int) (i : Int) (f_1 : Rows) (x_1 : Int) (x_2 : Int) (x_3 : Int) (x_4 : Bytes) (bank : Rows) (out_0 : Rows) : St := { n := 75, sl := [(2, .int .i64 part), (4, .ptr 256 0), (6, .ptr 384 0), (7, .ptr 448 0), (8, .own 640512), (9, .int .i64 i)], hp := [(192, .box 34 [.sl [.str] f_1]), (256, .box 26 [.int .i64 x_1, .int .i64 x_2, .int .i64 x_3, .str x_4]), (384, .box 34 [.nil]), (448, .box 34 [.own 1394688]), (640512, .row 5 [.int .u8] bank true true), (1394688, .row 9 [.str] out_0 false true)], ok := true, ls := [], lm := [] }
def impl_DoFlashStep_m1 (part : Int) (i_1 : Int) (f_2 : Rows) (x_5 : Int) (x_6 : Int) (x_7 : Int) (x_8 : Bytes) (bank_1 : Rows) (out_0_1 : Rows) : St := { n := 75, sl := [(2, .int .i64 part), (4, .ptr 256 0), (6, .ptr 384 0), (7, .ptr 448 0), (8, .own 640512), (10, .int .i64 i_1)], hp := [(192, .box 34 [.sl [.str] f_2]), (256, .box 26 [.int .i64 x_5, .int .i64 x_6, .int .i64 x_7, .str x_8]), (384, .box 34 [.nil]), (448, .box 34 [.own 1394688]), (640512, .row 5 [.int .u8] bank_1 true true), (1394688, .row 9 [.str] out_0_1 false true)], ok := true, ls := [], lm := [] }
noncomputable def impl_DoFlashStep_B1 (N : Nat) : (St → Res) → St → Res := loopB Try.prog impl_DoFlashStep_G impl_DoFlashStep_A N Try.f34 impl_DoFlashStep_s [true, true, true, true, false, true, true, true, false] []
noncomputable def impl_DoFlashStep_B0 (N : Nat) : (St → Res) → St → Res := loopB Try.prog impl_DoFlashStep_G impl_DoFlashStep_A N Try.f34 impl_DoFlashStep_s [true, true, true, true, false, true, false, true, false] []
theorem impl_DoFlashStep_b1 (N : Nat) (part : Int) (f_2 : Rows) (x_5 : Int) (x_6 : Int) (x_7 : Int) (x_8 : Bytes) (out_0_1 : Rows) (ih : St → Res) (i_1 : Int) (bank_1 : Rows) : impl_DoFlashStep_B1 N ih (impl_DoFlashStep_m1 part i_1 f_2 x_5 x_6 x_7 x_8 bank_1 out_0_1) = impl_DoFlashStep_l1 Vm.bad impl_DoFlashStep_K part x_6 x_7 x_8 out_0_1 (fun i_1 bank_1 => ih (impl_DoFlashStep_m1 part i_1 f_2 x_5 x_6 x_7 x_8 bank_1 out_0_1)) i_1 bank_1 := by kernel_rfl
theorem impl_DoFlashStep_n1 (N : Nat) (part : Int) (f_2 : Rows) (x_5 : Int) (x_6 : Int) (x_7 : Int) (x_8 : Bytes) (out_0_1 : Rows) (m_ : Nat) : (fun i_1 bank_1 => loopN (impl_DoFlashStep_B1 N) m_ (impl_DoFlashStep_m1 part i_1 f_2 x_5 x_6 x_7 x_8 bank_1 out_0_1)) = impl_DoFlashStep_L1 Vm.bad impl_DoFlashStep_K N part x_6 x_7 x_8 out_0_1 m_ := by
  induction m_ with
  | zero => rfl
  | succ m_ ih =>
    funext i_1 bank_1
    show impl_DoFlashStep_B1 N (loopN (impl_DoFlashStep_B1 N) m_) (impl_DoFlashStep_m1 part i_1 f_2 x_5 x_6 x_7 x_8 bank_1 out_0_1) = _
    rw [impl_DoFlashStep_b1 N part f_2 x_5 x_6 x_7 x_8 out_0_1]
    rw [ih]
    rfl
theorem impl_DoFlashStep_b0 (N : Nat) (part : Int) (f_1 : Rows) (x_1 : Int) (x_2 : Int) (x_3 : Int) (x_4 : Bytes) (out_0 : Rows) (ih : St → Res) (i : Int) (bank : Rows) : impl_DoFlashStep_B0 N ih (impl_DoFlashStep_m0 part i f_1 x_1 x_2 x_3 x_4 bank out_0) = impl_DoFlashStep_l0 Vm.bad impl_DoFlashStep_K part x_2 out_0 (fun i bank => ih (impl_DoFlashStep_m0 part i f_1 x_1 x_2 x_3 x_4 bank out_0)) i bank := by kernel_rfl
theorem impl_DoFlashStep_n0 (N : Nat) (part : Int) (f_1 : Rows) (x_1 : Int) (x_2 : Int) (x_3 : Int) (x_4 : Bytes) (out_0 : Rows) (m_ : Nat) : (fun i bank => loopN (impl_DoFlashStep_B0 N) m_ (impl_DoFlashStep_m0 part i f_1 x_1 x_2 x_3 x_4 bank out_0)) = impl_DoFlashStep_L0 Vm.bad impl_DoFlashStep_K N part x_2 out_0 m_ := by
  induction m_ with
  | zero => rfl
  | succ m_ ih =>
    funext i bank
    show impl_DoFlashStep_B0 N (loopN (impl_DoFlashStep_B0 N) m_) (impl_DoFlashStep_m0 part i f_1 x_1 x_2 x_3 x_4 bank out_0) = _
    rw [impl_DoFlashStep_b0 N part f_1 x_1 x_2 x_3 x_4 out_0]
    rw [ih]
    rfl
theorem impl_DoFlashStep_r (N : Nat) (f : SFlash) (x : SFlashStep) (part : Int) : runF Try.prog impl_DoFlashStep_G impl_DoFlashStep_A N Try.f34 impl_DoFlashStep_s (f.enc ++ (x.enc ++ (.int part :: ([])))) = impl_DoFlashStep_f Vm.bad impl_DoFlashStep_K N f x part := by
  have h : runF Try.prog impl_DoFlashStep_G impl_DoFlashStep_A N Try.f34 impl_DoFlashStep_s (f.enc ++ (x.enc ++ (.int part :: ([])))) = impl_DoFlashStep_t Vm.bad impl_DoFlashStep_K (fun x_2 out_0 i bank => loopN (impl_DoFlashStep_B0 N) N (impl_DoFlashStep_m0 part i f.Banks x.Kind x_2 x.At x.Data bank out_0)) (fun x_6 x_7 x_8 out_0_1 i_1 bank_1 => loopN (impl_DoFlashStep_B1 N) N (impl_DoFlashStep_m1 part i_1 f.Banks x.Kind x_6 x_7 x_8 bank_1 out_0_1)) f x part := by kernel_rfl
  refine h.trans ?_
  unfold impl_DoFlashStep_f
  have e0 : (fun x_2 out_0 i bank => loopN (impl_DoFlashStep_B0 N) N (impl_DoFlashStep_m0 part i f.Banks x.Kind x_2 x.At x.Data bank out_0)) = (fun x_2 out_0 => impl_DoFlashStep_L0 Vm.bad impl_DoFlashStep_K N part x_2 out_0 N) := by
    funext x_2 out_0
    exact impl_DoFlashStep_n0 N part f.Banks x.Kind x_2 x.At x.Data out_0 N
  have e1 : (fun x_6 x_7 x_8 out_0_1 i_1 bank_1 => loopN (impl_DoFlashStep_B1 N) N (impl_DoFlashStep_m1 part i_1 f.Banks x.Kind x_6 x_7 x_8 bank_1 out_0_1)) = (fun x_6 x_7 x_8 out_0_1 => impl_DoFlashStep_L1 Vm.bad impl_DoFlashStep_K N part x_6 x_7 x_8 out_0_1 N) := by
    funext x_6 x_7 x_8 out_0_1
    exact impl_DoFlashStep_n1 N part f.Banks x.Kind x_6 x_7 x_8 out_0_1 N
  refine (congrArg (fun l_ => impl_DoFlashStep_t Vm.bad impl_DoFlashStep_K l_ (fun x_6 x_7 x_8 out_0_1 i_1 bank_1 => loopN (impl_DoFlashStep_B1 N) N (impl_DoFlashStep_m1 part i_1 f.Banks x.Kind x_6 x_7 x_8 bank_1 out_0_1)) f x part) e0).trans ?_
  exact congrArg (fun l_ => impl_DoFlashStep_t Vm.bad impl_DoFlashStep_K (fun x_2 out_0 => impl_DoFlashStep_L0 Vm.bad impl_DoFlashStep_K N part x_2 out_0 N) l_ f x part) e1
theorem impl_DoFlashStep_h : Holds Try.prog 34 impl_DoFlashStep_s := by
  refine holds_of_run (A := impl_DoFlashStep_A) impl_DoFlashStep_x Try.func34 rfl (by kernel_rfl) (of_decide_eq_true (by kernel_rfl)) (of_decide_eq_true (by kernel_rfl)) ?_
  intro ds hw hok
  replace hw : WtL (SFlash.ct ++ (SFlashStep.ct ++ ((.int .i64) :: ([])))) ds := hw
  obtain ⟨f, ds, rfl, h_f, hw⟩ := SFlash.of_wt (r := _) hw
  obtain ⟨x, ds, rfl, h_x, hw⟩ := SFlashStep.of_wt (r := _) hw
  obtain ⟨part, ds, rfl, h_part, hw⟩ := of_wt_int hw
  obtain rfl := of_wt_nil hw
  obtain ⟨N, hN⟩ := impl_DoFlashStep_c Vm.bad impl_DoFlashStep_K f x part h_f h_x h_part hok
  exact ⟨N, ((impl_DoFlashStep_r N f x part).trans hN).trans (by kernel_rfl)⟩

def spec_l01Long_s : Sum := { ps := [⟨[.int .i64], false⟩, ⟨[.int .u8], false⟩], rs := [⟨[.imm .str], false⟩], fn := fun ds => (l01Long_ok (rI ds 0) (rI ds 1), [.str (l01Long (rI ds 0) (rI ds 1))]) }
def spec_l01Long_G : Ctx := []
theorem spec_l01Long_x : CtxHolds Try.prog spec_l01Long_G := ctx_nil
def spec_l01Long_A : List (Nat × Ann) := [(3, { slots := [(0, .asis), (1, .asis), (5, .asis), (6, .asis)], boxes := [] })]
def spec_l01Long_K : Bytes → Res := (fun r0 => ((true, [.str r0]) : Res))
def spec_l01Long_m0 (n : Int) (x : Int) (i : Int) (out_ : Rows) : St := { n := 20, sl := [(0, .int .i64 n), (1, .int .u8 x), (5, .own 640320), (6, .int .i64 i)], hp := [(640320, .row 5 [.int .u8] out_ false true)], ok := true, ls := [], lm := [] }
noncomputable def spec_l01Long_B0 (N : Nat) : (St → Res) → St → Res := loopB Try.prog spec_l01Long_G spec_l01Long_A N Try.f63 spec_l01Long_s [true, true, false, true, false] []
theorem spec_l01Long_b0 (N : Nat) (n : Int) (x : Int) (ih : St → Res) (i : Int) (out_ : Rows) : spec_l01Long_B0 N ih (spec_l01Long_m0 n x i out_) = spec_l01Long_l0 Vm.bad spec_l01Long_K n x (fun i out_ => ih (spec_l01Long_m0 n x i out_)) i out_ := by kernel_rfl
theorem spec_l01Long_n0 (N : Nat) (n : Int) (x : Int) (m_ : Nat) : (fun i out_ => loopN (spec_l01Long_B0 N) m_ (spec_l01Long_m0 n x i out_)) = spec_l01Long_L0 Vm.bad spec_l01Long_K N n x m_ := by
  induction m_ with
  | zero => rfl
  | succ m_ ih =>
    funext i out_
    show spec_l01Long_B0 N (loopN (spec_l01Long_B0 N) m_) (spec_l01Long_m0 n x i out_) = _
    rw [spec_l01Long_b0 N n x]
    rw [ih]
    rfl
theorem spec_l01Long_r (N : Nat) (n : Int) (x : Int) : runF Try.prog spec_l01Long_G spec_l01Long_A N Try.f63 spec_l01Long_s (.int n :: (.int x :: ([]))) = spec_l01Long_f Vm.bad spec_l01Long_K N n x := by
  have h : runF Try.prog spec_l01Long_G spec_l01Long_A N Try.f63 spec_l01Long_s (.int n :: (.int x :: ([]))) = spec_l01Long_t Vm.bad spec_l01Long_K (fun i out_ => loopN (spec_l01Long_B0 N) N (spec_l01Long_m0 n x i out_)) n x := by kernel_rfl
  refine h.trans ?_
  unfold spec_l01Long_f
  have e0 : (fun i out_ => loopN (spec_l01Long_B0 N) N (spec_l01Long_m0 n x i out_)) = (spec_l01Long_L0 Vm.bad spec_l01Long_K N n x N) := by
    exact spec_l01Long_n0 N n x N
  exact congrArg (fun l_ => spec_l01Long_t Vm.bad spec_l01Long_K l_ n x) e0
theorem spec_l01Long_h : Holds Try.prog 63 spec_l01Long_s := by
  refine holds_of_run (A := spec_l01Long_A) spec_l01Long_x Try.func63 rfl (by kernel_rfl) (of_decide_eq_true (by kernel_rfl)) (of_decide_eq_true (by kernel_rfl)) ?_
  intro ds hw hok
  replace hw : WtL ((.int .i64) :: ((.int .u8) :: ([]))) ds := hw
  obtain ⟨n, ds, rfl, h_n, hw⟩ := of_wt_int hw
  obtain ⟨x, ds, rfl, h_x, hw⟩ := of_wt_int hw
  obtain rfl := of_wt_nil hw
  obtain ⟨N, hN⟩ := spec_l01Long_c Vm.bad spec_l01Long_K n x h_n h_x hok
  exact ⟨N, ((spec_l01Long_r N n x).trans hN).trans (by kernel_rfl)⟩

def spec_PutBytes_s : Sum := { ps := [⟨[.str], false⟩, ⟨[.int .i64], false⟩, ⟨[.str], false⟩], rs := [⟨[.imm .str], false⟩], fn := fun ds => (PutBytes_ok (rS ds 0) (rI ds 1) (rS ds 2), [.str (PutBytes (rS ds 0) (rI ds 1) (rS ds 2))]) }
def spec_PutBytes_G : Ctx := [(72, spec_l02Within_s)]
theorem spec_PutBytes_x : CtxHolds Try.prog spec_PutBytes_G := ctx_cons spec_l02Within_h ctx_nil
def spec_PutBytes_A : List (Nat × Ann) := []
theorem spec_PutBytes_r (N : Nat) (s : Bytes) (at_ : Int) (part : Bytes) : runF Try.prog spec_PutBytes_G spec_PutBytes_A N Try.f62 spec_PutBytes_s (.str s :: (.int at_ :: (.str part :: ([])))) = spec_PutBytes_t Vm.bad (fun r0 => ((true, [.str r0]) : Res)) s at_ part := by kernel_rfl
theorem spec_PutBytes_h : Holds Try.prog 62 spec_PutBytes_s := by
  refine holds_of_run (A := spec_PutBytes_A) spec_PutBytes_x Try.func62 rfl (by kernel_rfl) (of_decide_eq_true (by kernel_rfl)) (of_decide_eq_true (by kernel_rfl)) ?_
  intro ds hw hok
  replace hw : WtL (.str :: ((.int .i64) :: (.str :: ([])))) ds := hw
  obtain ⟨s, ds, rfl, h_s, hw⟩ := of_wt_str hw
  obtain ⟨at_, ds, rfl, h_at_, hw⟩ := of_wt_int hw
  obtain ⟨part, ds, rfl, h_part, hw⟩ := of_wt_str hw
  obtain rfl := of_wt_nil hw
  exact ⟨0, ((spec_PutBytes_r 0 s at_ part).trans (spec_PutBytes_c Vm.bad _ s at_ part h_s h_at_ h_part hok)).trans (by kernel_rfl)⟩

def spec_DoFlashStep_s : Sum := { ps := [⟨[.sl [.str]], true⟩, ⟨[.int .i64, .int .i64, .int .i64, .str], true⟩, ⟨[.int .i64], false⟩], rs := [⟨[.own 9 [.str]], true⟩], fn := fun ds => (DoFlashStep_ok (SFlash.decAt ds 0) (SFlashStep.decAt ds 1) (rI ds 5), SFlash.enc (DoFlashStep (SFlash.decAt ds 0) (SFlashStep.decAt ds 1) (rI ds 5))) }
def spec_DoFlashStep_G : Ctx := [(15, spec_FlashStepOk_s), (19, spec_FlashOk_s), (62, spec_PutBytes_s), (63, spec_l01Long_s)]
theorem spec_DoFlashStep_x : CtxHolds Try.prog spec_DoFlashStep_G := ctx_cons spec_FlashStepOk_h (ctx_cons spec_FlashOk_h (ctx_cons spec_PutBytes_h (ctx_cons spec_l01Long_h ctx_nil)))
def spec_DoFlashStep_A : List (Nat × Ann) := [(9, { slots := [(2, .asis), (4, .asis), (6, .asis), (7, .asis), (8, .asis), (9, .asis)], boxes := [(192, []), (256, []), (384, []), (448, [])] })]
def spec_DoFlashStep_K : SFlash → Res := (fun r0 => ((true, SFlash.enc r0) : Res))
def spec_DoFlashStep_m0 (part : Int) (s : Bytes) (k : Int) (f_1 : Rows) (x_1 : Int) (x_2 : Int) (x_3 : Int) (x_4 : Bytes) (out_0 : Rows) : St := { n := 83, sl := [(2, .int .i64 part), (4, .ptr 256 0), (6, .ptr 384 0), (7, .ptr 448 0), (8, .str s), (9, .int .i64 k)], hp := [(192, .box 34 [.sl [.str] f_1]), (256, .box 26 [.int .i64 x_1, .int .i64 x_2, .int .i64 x_3, .str x_4]), (384, .box 34 [.nil]), (448, .box 34 [.own 1394688]), (1394688, .row 9 [.str] out_0 false true)], ok := true, ls := [], lm := [] }
noncomputable def spec_DoFlashStep_B0 (N : Nat) : (St → Res) → St → Res := loopB Try.prog spec_DoFlashStep_G spec_DoFlashStep_A N Try.f33 spec_DoFlashStep_s [true, true, true, true, true, false, true, false] []
theorem spec_DoFlashStep_b0 (N : Nat) (part : Int) (f_1 : Rows) (x_1 : Int) (x_2 : Int) (x_3 : Int) (x_4 : Bytes) (out_0 : Rows) (ih : St → Res) (s : Bytes) (k : Int) : spec_DoFlashStep_B0 N ih (spec_DoFlashStep_m0 part s k f_1 x_1 x_2 x_3 x_4 out_0) = spec_DoFlashStep_l0 Vm.bad spec_DoFlashStep_K part x_2 x_3 x_4 out_0 (fun s k => ih (spec_DoFlashStep_m0 part s k f_1 x_1 x_2 x_3 x_4 out_0)) s k := by kernel_rfl
theorem spec_DoFlashStep_n0 (N : Nat) (part : Int) (f_1 : Rows) (x_1 : Int) (x_2 : Int) (x_3 : Int) (x_4 : Bytes) (out_0 : Rows) (m_ : Nat) : (fun s k => loopN (spec_DoFlashStep_B0 N) m_ (spec_DoFlashStep_m0 part s k f_1 x_1 x_2 x_3 x_4 out_0)) = spec_DoFlashStep_L0 Vm.bad spec_DoFlashStep_K N part x_2 x_3 x_4 out_0 m_ := by
  induction m_ with
  | zero => rfl
  | succ m_ ih =>
    funext s k
    show spec_DoFlashStep_B0 N (loopN (spec_DoFlashStep_B0 N) m_) (spec_DoFlashStep_m0 part s k f_1 x_1 x_2 x_3 x_4 out_0) = _
    rw [spec_DoFlashStep_b0 N part f_1 x_1 x_2 x_3 x_4 out_0]
    rw [ih]
    rfl
theorem spec_DoFlashStep_r (N : Nat) (f : SFlash) (x : SFlashStep) (part : Int) : runF Try.prog spec_DoFlashStep_G spec_DoFlashStep_A N Try.f33 spec_DoFlashStep_s (f.enc ++ (x.enc ++ (.int part :: ([])))) = spec_DoFlashStep_f Vm.bad spec_DoFlashStep_K N f x part := by
  have h : runF Try.prog spec_DoFlashStep_G spec_DoFlashStep_A N Try.f33 spec_DoFlashStep_s (f.enc ++ (x.enc ++ (.int part :: ([])))) = spec_DoFlashStep_t Vm.bad spec_DoFlashStep_K (fun x_2 x_3 x_4 out_0 s k => loopN (spec_DoFlashStep_B0 N) N (spec_DoFlashStep_m0 part s k f.Banks x.Kind x_2 x_3 x_4 out_0)) f x part := by kernel_rfl
  refine h.trans ?_
  unfold spec_DoFlashStep_f
  have e0 : (fun x_2 x_3 x_4 out_0 s k => loopN (spec_DoFlashStep_B0 N) N (spec_DoFlashStep_m0 part s k f.Banks x.Kind x_2 x_3 x_4 out_0)) = (fun x_2 x_3 x_4 out_0 => spec_DoFlashStep_L0 Vm.bad spec_DoFlashStep_K N part x_2 x_3 x_4 out_0 N) := by
    funext x_2 x_3 x_4 out_0
    exact spec_DoFlashStep_n0 N part f.Banks x.Kind x_2 x_3 x_4 out_0 N
  exact congrArg (fun l_ => spec_DoFlashStep_t Vm.bad spec_DoFlashStep_K l_ f x part) e0
theorem spec_DoFlashStep_h : Holds Try.prog 33 spec_DoFlashStep_s := by
  refine holds_of_run (A := spec_DoFlashStep_A) spec_DoFlashStep_x Try.func33 rfl (by kernel_rfl) (of_decide_eq_true (by kernel_rfl)) (of_decide_eq_true (by kernel_rfl)) ?_
  intro ds hw hok
  replace hw : WtL (SFlash.ct ++ (SFlashStep.ct ++ ((.int .i64) :: ([])))) ds := hw
  obtain ⟨f, ds, rfl, h_f, hw⟩ := SFlash.of_wt (r := _) hw
  obtain ⟨x, ds, rfl, h_x, hw⟩ := SFlashStep.of_wt (r := _) hw
  obtain ⟨part, ds, rfl, h_part, hw⟩ := of_wt_int hw
  obtain rfl := of_wt_nil hw
  obtain ⟨N, hN⟩ := spec_DoFlashStep_c Vm.bad spec_DoFlashStep_K f x part h_f h_x h_part hok
  exact ⟨N, ((spec_DoFlashStep_r N f x part).trans hN).trans (by kernel_rfl)⟩

def laws_FnExactDoFlashStep_s : Sum := { ps := [⟨[.sl [.str]], true⟩, ⟨[.int .i64, .int .i64, .int .i64, .str], true⟩, ⟨[.int .i64], false⟩], rs := [⟨[.imm .bool], false⟩], fn := fun ds => (fitL (SFlash.ct ++ (SFlashStep.ct ++ ((.int .i64) :: ([])))) ds, [.bool true]) }
def laws_FnExactDoFlashStep_G : Ctx := [(14, laws_szFlashStep_s), (16, laws_toFlashStep_s), (18, laws_szFlash_s), (20, laws_toFlash_s), (22, laws_eqFlash_s), (33, spec_DoFlashStep_s), (34, impl_DoFlashStep_s), (35, laws_markFlash_s), (36, laws_heldFlash_s)]
theorem laws_FnExactDoFlashStep_x : CtxHolds Try.prog laws_FnExactDoFlashStep_G := ctx_cons laws_szFlashStep_h (ctx_cons laws_toFlashStep_h (ctx_cons laws_szFlash_h (ctx_cons laws_toFlash_h (ctx_cons laws_eqFlash_h (ctx_cons spec_DoFlashStep_h (ctx_cons impl_DoFlashStep_h (ctx_cons laws_markFlash_h (ctx_cons laws_heldFlash_h ctx_nil))))))))
def laws_FnExactDoFlashStep_A : List (Nat × Ann) := []
theorem laws_FnExactDoFlashStep_r (N : Nat) (aF : SFlash) (aX : SFlashStep) (aPart : Int) : runF Try.prog laws_FnExactDoFlashStep_G laws_FnExactDoFlashStep_A N Try.f9 laws_FnExactDoFlashStep_s (aF.enc ++ (aX.enc ++ (.int aPart :: ([])))) = laws_FnExactDoFlashStep_t Vm.bad (fun r0 => ((true, [.bool r0]) : Res)) aF aX aPart := by kernel_rfl
theorem laws_FnExactDoFlashStep_h : Holds Try.prog 9 laws_FnExactDoFlashStep_s := by
  refine holds_of_run (A := laws_FnExactDoFlashStep_A) laws_FnExactDoFlashStep_x Try.func9 rfl (by kernel_rfl) (of_decide_eq_true (by kernel_rfl)) (of_decide_eq_true (by kernel_rfl)) ?_
  intro ds hw hok
  replace hw : WtL (SFlash.ct ++ (SFlashStep.ct ++ ((.int .i64) :: ([])))) ds := hw
  obtain ⟨aF, ds, rfl, h_aF, hw⟩ := SFlash.of_wt (r := _) hw
  obtain ⟨aX, ds, rfl, h_aX, hw⟩ := SFlashStep.of_wt (r := _) hw
  obtain ⟨aPart, ds, rfl, h_aPart, hw⟩ := of_wt_int hw
  obtain rfl := of_wt_nil hw
  exact ⟨0, ((laws_FnExactDoFlashStep_r 0 aF aX aPart).trans (laws_FnExactDoFlashStep_c Vm.bad _ aF aX aPart h_aF h_aX h_aPart hok)).trans (by kernel_rfl)⟩

end
end Go.Proofs.Ytjknoknkbfhelaa.Pl
