/- The contracts of functions of the program: each computes what its plain form says. Conditions: none. -/
import Derived.Test.YtfnkhejoihnlnaaPGr
import Derived.Test.YtfnkhejoihnlnaaRows
import Derived.Test.YtfnkhejoihnlnaaBAp
set_option linter.unusedVariables false
set_option linter.unusedSimpArgs false
set_option maxRecDepth 100000
namespace Go.Proofs.Ytfnkhejoihnlnaa.Pl
open Vm
noncomputable section

def impl_copyMappings_s : Sum := { ps := [⟨[.sl [.int .i64, .int .i64, .int .i64, .bool]], false⟩], rs := [⟨[.own 95 [.int .i64, .int .i64, .int .i64, .bool]], false⟩], fn := fun ds => (sm (rR ds 0), [.sl (idf (rR ds 0))]) }
def impl_copyMappings_G : Ctx := []
theorem impl_copyMappings_x : CtxHolds Try.prog impl_copyMappings_G := ctx_nil
def impl_copyMappings_A : List (Nat × Ann) := []
theorem impl_copyMappings_r (N : Nat) (list_ : Rows) : runF Try.prog impl_copyMappings_G impl_copyMappings_A N Try.f72 impl_copyMappings_s (.sl list_ :: ([])) = impl_copyMappings_t Vm.bad (fun r0 => ((true, [.sl r0]) : Res)) list_ := by kernel_rfl
theorem impl_copyMappings_h : Holds Try.prog 72 impl_copyMappings_s := by
  refine holds_of_run (A := impl_copyMappings_A) impl_copyMappings_x Try.func72 rfl (by kernel_rfl) (of_decide_eq_true (by kernel_rfl)) (of_decide_eq_true (by kernel_rfl)) ?_
  intro ds hw hok
  replace hw : WtL ((.sl [.int .i64, .int .i64, .int .i64, .bool]) :: ([])) ds := hw
  obtain ⟨list_, ds, rfl, h_list_, hw⟩ := of_wt_sl hw
  obtain rfl := of_wt_nil hw
  exact ⟨0, ((impl_copyMappings_r 0 list_).trans (impl_copyMappings_c Vm.bad _ list_ h_list_ hok)).trans (by kernel_rfl)⟩

def impl_MapPage_s : Sum := { ps := [⟨[.sl [.int .i64, .int .i64, .int .i64, .bool]], false⟩, ⟨[.int .i64, .int .i64, .int .i64, .bool], true⟩], rs := [⟨[.own 95 [.int .i64, .int .i64, .int .i64, .bool]], false⟩, ⟨[.imm .bool], false⟩], fn := fun ds => (MapPage_ok (rR ds 0) (SMapping.decAt ds 1), [.sl (MapPage (rR ds 0) (SMapping.decAt ds 1)).1] ++ [.bool (MapPage (rR ds 0) (SMapping.decAt ds 1)).2]) }
def impl_MapPage_G : Ctx := [(72, impl_copyMappings_s), (78, impl_MappingsOk_s)]
theorem impl_MapPage_x : CtxHolds Try.prog impl_MapPage_G := ctx_cons impl_copyMappings_h (ctx_cons impl_MappingsOk_h ctx_nil)
def impl_MapPage_A : List (Nat × Ann) := []
theorem impl_MapPage_r (N : Nat) (list_ : Rows) (x : SMapping) : runF Try.prog impl_MapPage_G impl_MapPage_A N Try.f73 impl_MapPage_s (.sl list_ :: (x.enc ++ ([]))) = impl_MapPage_t Vm.bad (fun r0 r1 => ((true, [.sl r0] ++ [.bool r1]) : Res)) list_ x := by kernel_rfl
theorem impl_MapPage_h : Holds Try.prog 73 impl_MapPage_s := by
  refine holds_of_run (A := impl_MapPage_A) impl_MapPage_x Try.func73 rfl (by kernel_rfl) (of_decide_eq_true (by kernel_rfl)) (of_decide_eq_true (by kernel_rfl)) ?_
  intro ds hw hok
  replace hw : WtL ((.sl [.int .i64, .int .i64, .int .i64, .bool]) :: (SMapping.ct ++ ([]))) ds := hw
  obtain ⟨list_, ds, rfl, h_list_, hw⟩ := of_wt_sl hw
  obtain ⟨x, ds, rfl, h_x, hw⟩ := SMapping.of_wt (r := _) hw
  obtain rfl := of_wt_nil hw
  exact ⟨0, ((impl_MapPage_r 0 list_ x).trans (impl_MapPage_c Vm.bad _ list_ x h_list_ h_x hok)).trans (by kernel_rfl)⟩

def spec_MapPage_s : Sum := { ps := [⟨[.sl [.int .i64, .int .i64, .int .i64, .bool]], false⟩, ⟨[.int .i64, .int .i64, .int .i64, .bool], true⟩], rs := [⟨[.own 95 [.int .i64, .int .i64, .int .i64, .bool]], false⟩, ⟨[.imm .bool], false⟩], fn := fun ds => (MapPage_ok (rR ds 0) (SMapping.decAt ds 1), [.sl (MapPage (rR ds 0) (SMapping.decAt ds 1)).1] ++ [.bool (MapPage (rR ds 0) (SMapping.decAt ds 1)).2]) }
def spec_MapPage_G : Ctx := [(98, spec_MappingsOk_s)]
theorem spec_MapPage_x : CtxHolds Try.prog spec_MapPage_G := ctx_cons spec_MappingsOk_h ctx_nil
def spec_MapPage_A : List (Nat × Ann) := []
theorem spec_MapPage_r (N : Nat) (list_ : Rows) (x : SMapping) : runF Try.prog spec_MapPage_G spec_MapPage_A N Try.f71 spec_MapPage_s (.sl list_ :: (x.enc ++ ([]))) = spec_MapPage_t Vm.bad (fun r0 r1 => ((true, [.sl r0] ++ [.bool r1]) : Res)) list_ x := by kernel_rfl
theorem spec_MapPage_h : Holds Try.prog 71 spec_MapPage_s := by
  refine holds_of_run (A := spec_MapPage_A) spec_MapPage_x Try.func71 rfl (by kernel_rfl) (of_decide_eq_true (by kernel_rfl)) (of_decide_eq_true (by kernel_rfl)) ?_
  intro ds hw hok
  replace hw : WtL ((.sl [.int .i64, .int .i64, .int .i64, .bool]) :: (SMapping.ct ++ ([]))) ds := hw
  obtain ⟨list_, ds, rfl, h_list_, hw⟩ := of_wt_sl hw
  obtain ⟨x, ds, rfl, h_x, hw⟩ := SMapping.of_wt (r := _) hw
  obtain rfl := of_wt_nil hw
  exact ⟨0, ((spec_MapPage_r 0 list_ x).trans (spec_MapPage_c Vm.bad _ list_ x h_list_ h_x hok)).trans (by kernel_rfl)⟩

def impl_GrantPages_s : Sum := { ps := [⟨[.sl [.int .i64, .int .i64, .int .i64, .int .i64, .int .i64, .bool, .int .i64, .int .i64]], false⟩, ⟨[.sl [.int .i64, .int .i64, .int .i64, .bool]], false⟩, ⟨[.int .i64], false⟩, ⟨[.int .i64], false⟩, ⟨[.sl [.int .i64]], false⟩], rs := [⟨[.own 95 [.int .i64, .int .i64, .int .i64, .bool]], false⟩, ⟨[.imm .bool], false⟩], fn := fun ds => (GrantPages_ok (rR ds 0) (rR ds 1) (rI ds 2) (rI ds 3) (rR ds 4), [.sl (GrantPages (rR ds 0) (rR ds 1) (rI ds 2) (rI ds 3) (rR ds 4)).1] ++ [.bool (GrantPages (rR ds 0) (rR ds 1) (rI ds 2) (rI ds 3) (rR ds 4)).2]) }
def impl_GrantPages_G : Ctx := [(23, impl_FunctionsApart_s), (68, impl_between_s), (72, impl_copyMappings_s), (73, impl_MapPage_s)]
theorem impl_GrantPages_x : CtxHolds Try.prog impl_GrantPages_G := ctx_cons impl_FunctionsApart_h (ctx_cons impl_between_h (ctx_cons impl_copyMappings_h (ctx_cons impl_MapPage_h ctx_nil)))
def impl_GrantPages_A : List (Nat × Ann) := [(6, { slots := [(0, .asis), (2, .asis), (3, .asis), (12, .asis), (13, .asis), (29, .asis), (30, .asis), (31, .asis)], boxes := [] })]
def impl_GrantPages_K : Rows → Bool → Res := (fun r0 r1 => ((true, [.sl r0] ++ [.bool r1]) : Res))
def impl_GrantPages_m0 (list_ : Rows) (k : Int) (virtual : Int) (physical : Rows) (x_1 : Int) (x_2 : Int) (same : Rows) (out_ : Rows) : St := { n := 62, sl := [(0, .sl [.int .i64, .int .i64, .int .i64, .int .i64, .int .i64, .bool, .int .i64, .int .i64] list_), (2, .int .i64 k), (3, .int .i64 virtual), (12, .own 640768), (13, .own 640832), (29, .sl [.int .i64] physical), (30, .int .i64 x_1), (31, .int .i64 x_2)], hp := [(640768, .row 95 [.int .i64, .int .i64, .int .i64, .bool] same false true), (640832, .row 95 [.int .i64, .int .i64, .int .i64, .bool] out_ false true)], ok := true, ls := [], lm := [] }
noncomputable def impl_GrantPages_B0 (N : Nat) : (St → Res) → St → Res := loopB Try.prog impl_GrantPages_G impl_GrantPages_A N Try.f32 impl_GrantPages_s [true, true, true, true, false, true, false] []
theorem impl_GrantPages_b0 (N : Nat) (list_ : Rows) (k : Int) (virtual : Int) (physical : Rows) (x_1 : Int) (same : Rows) (ih : St → Res) (x_2 : Int) (out_ : Rows) : impl_GrantPages_B0 N ih (impl_GrantPages_m0 list_ k virtual physical x_1 x_2 same out_) = impl_GrantPages_l0 Vm.bad impl_GrantPages_K list_ k virtual physical x_1 same (fun x_2 out_ => ih (impl_GrantPages_m0 list_ k virtual physical x_1 x_2 same out_)) x_2 out_ := by kernel_rfl
theorem impl_GrantPages_n0 (N : Nat) (list_ : Rows) (k : Int) (virtual : Int) (physical : Rows) (x_1 : Int) (same : Rows) (m_ : Nat) : (fun x_2 out_ => loopN (impl_GrantPages_B0 N) m_ (impl_GrantPages_m0 list_ k virtual physical x_1 x_2 same out_)) = impl_GrantPages_L0 Vm.bad impl_GrantPages_K N list_ k virtual physical x_1 same m_ := by
  induction m_ with
  | zero => rfl
  | succ m_ ih =>
    funext x_2 out_
    show impl_GrantPages_B0 N (loopN (impl_GrantPages_B0 N) m_) (impl_GrantPages_m0 list_ k virtual physical x_1 x_2 same out_) = _
    rw [impl_GrantPages_b0 N list_ k virtual physical x_1 same]
    rw [ih]
    rfl
theorem impl_GrantPages_r (N : Nat) (list_ : Rows) (maps : Rows) (k : Int) (virtual : Int) (physical : Rows) : runF Try.prog impl_GrantPages_G impl_GrantPages_A N Try.f32 impl_GrantPages_s (.sl list_ :: (.sl maps :: (.int k :: (.int virtual :: (.sl physical :: ([])))))) = impl_GrantPages_f Vm.bad impl_GrantPages_K N list_ maps k virtual physical := by
  have run_ : runF Try.prog impl_GrantPages_G impl_GrantPages_A N Try.f32 impl_GrantPages_s (.sl list_ :: (.sl maps :: (.int k :: (.int virtual :: (.sl physical :: ([])))))) = impl_GrantPages_t Vm.bad impl_GrantPages_K (fun x_1 same x_2 out_ => loopN (impl_GrantPages_B0 N) N (impl_GrantPages_m0 list_ k virtual physical x_1 x_2 same out_)) list_ maps k virtual physical := by kernel_rfl
  refine run_.trans ?_
  unfold impl_GrantPages_f
  have e0 : (fun x_1 same x_2 out_ => loopN (impl_GrantPages_B0 N) N (impl_GrantPages_m0 list_ k virtual physical x_1 x_2 same out_)) = (fun x_1 same => impl_GrantPages_L0 Vm.bad impl_GrantPages_K N list_ k virtual physical x_1 same N) := by
    funext x_1 same
    exact impl_GrantPages_n0 N list_ k virtual physical x_1 same N
  exact congrArg (fun l_ => impl_GrantPages_t Vm.bad impl_GrantPages_K l_ list_ maps k virtual physical) e0
theorem impl_GrantPages_h : Holds Try.prog 32 impl_GrantPages_s := by
  refine holds_of_run (A := impl_GrantPages_A) impl_GrantPages_x Try.func32 rfl (by kernel_rfl) (of_decide_eq_true (by kernel_rfl)) (of_decide_eq_true (by kernel_rfl)) ?_
  intro ds hw hok
  replace hw : WtL ((.sl [.int .i64, .int .i64, .int .i64, .int .i64, .int .i64, .bool, .int .i64, .int .i64]) :: ((.sl [.int .i64, .int .i64, .int .i64, .bool]) :: ((.int .i64) :: ((.int .i64) :: ((.sl [.int .i64]) :: ([])))))) ds := hw
  obtain ⟨list_, ds, rfl, h_list_, hw⟩ := of_wt_sl hw
  obtain ⟨maps, ds, rfl, h_maps, hw⟩ := of_wt_sl hw
  obtain ⟨k, ds, rfl, h_k, hw⟩ := of_wt_int hw
  obtain ⟨virtual, ds, rfl, h_virtual, hw⟩ := of_wt_int hw
  obtain ⟨physical, ds, rfl, h_physical, hw⟩ := of_wt_sl hw
  obtain rfl := of_wt_nil hw
  obtain ⟨N, hN⟩ := impl_GrantPages_c Vm.bad impl_GrantPages_K list_ maps k virtual physical h_list_ h_maps h_k h_virtual h_physical hok
  exact ⟨N, ((impl_GrantPages_r N list_ maps k virtual physical).trans hN).trans (by kernel_rfl)⟩

def spec_GrantPages_s : Sum := { ps := [⟨[.sl [.int .i64, .int .i64, .int .i64, .int .i64, .int .i64, .bool, .int .i64, .int .i64]], false⟩, ⟨[.sl [.int .i64, .int .i64, .int .i64, .bool]], false⟩, ⟨[.int .i64], false⟩, ⟨[.int .i64], false⟩, ⟨[.sl [.int .i64]], false⟩], rs := [⟨[.own 95 [.int .i64, .int .i64, .int .i64, .bool]], false⟩, ⟨[.imm .bool], false⟩], fn := fun ds => (GrantPages_ok (rR ds 0) (rR ds 1) (rI ds 2) (rI ds 3) (rR ds 4), [.sl (GrantPages (rR ds 0) (rR ds 1) (rI ds 2) (rI ds 3) (rR ds 4)).1] ++ [.bool (GrantPages (rR ds 0) (rR ds 1) (rI ds 2) (rI ds 3) (rR ds 4)).2]) }
def spec_GrantPages_G : Ctx := [(21, spec_FunctionsApart_s), (71, spec_MapPage_s)]
theorem spec_GrantPages_x : CtxHolds Try.prog spec_GrantPages_G := ctx_cons spec_FunctionsApart_h (ctx_cons spec_MapPage_h ctx_nil)
def spec_GrantPages_A : List (Nat × Ann) := [(6, { slots := [(0, .asis), (1, .asis), (2, .asis), (3, .asis), (4, .asis), (13, .asis), (14, .asis)], boxes := [] })]
def spec_GrantPages_K : Rows → Bool → Res := (fun r0 r1 => ((true, [.sl r0] ++ [.bool r1]) : Res))
def spec_GrantPages_m0 (list_ : Rows) (maps : Rows) (k : Int) (virtual : Int) (physical : Rows) (i : Int) (out_ : Rows) : St := { n := 79, sl := [(0, .sl [.int .i64, .int .i64, .int .i64, .int .i64, .int .i64, .bool, .int .i64, .int .i64] list_), (1, .sl [.int .i64, .int .i64, .int .i64, .bool] maps), (2, .int .i64 k), (3, .int .i64 virtual), (4, .sl [.int .i64] physical), (13, .own 640832), (14, .int .i64 i)], hp := [(640832, .row 95 [.int .i64, .int .i64, .int .i64, .bool] out_ false true)], ok := true, ls := [], lm := [] }
noncomputable def spec_GrantPages_B0 (N : Nat) : (St → Res) → St → Res := loopB Try.prog spec_GrantPages_G spec_GrantPages_A N Try.f30 spec_GrantPages_s [true, true, true, true, false, true, false] []
theorem spec_GrantPages_b0 (N : Nat) (list_ : Rows) (maps : Rows) (k : Int) (virtual : Int) (physical : Rows) (ih : St → Res) (i : Int) (out_ : Rows) : spec_GrantPages_B0 N ih (spec_GrantPages_m0 list_ maps k virtual physical i out_) = spec_GrantPages_l0 Vm.bad spec_GrantPages_K list_ maps k virtual physical (fun i out_ => ih (spec_GrantPages_m0 list_ maps k virtual physical i out_)) i out_ := by kernel_rfl
theorem spec_GrantPages_n0 (N : Nat) (list_ : Rows) (maps : Rows) (k : Int) (virtual : Int) (physical : Rows) (m_ : Nat) : (fun i out_ => loopN (spec_GrantPages_B0 N) m_ (spec_GrantPages_m0 list_ maps k virtual physical i out_)) = spec_GrantPages_L0 Vm.bad spec_GrantPages_K N list_ maps k virtual physical m_ := by
  induction m_ with
  | zero => rfl
  | succ m_ ih =>
    funext i out_
    show spec_GrantPages_B0 N (loopN (spec_GrantPages_B0 N) m_) (spec_GrantPages_m0 list_ maps k virtual physical i out_) = _
    rw [spec_GrantPages_b0 N list_ maps k virtual physical]
    rw [ih]
    rfl
theorem spec_GrantPages_r (N : Nat) (list_ : Rows) (maps : Rows) (k : Int) (virtual : Int) (physical : Rows) : runF Try.prog spec_GrantPages_G spec_GrantPages_A N Try.f30 spec_GrantPages_s (.sl list_ :: (.sl maps :: (.int k :: (.int virtual :: (.sl physical :: ([])))))) = spec_GrantPages_f Vm.bad spec_GrantPages_K N list_ maps k virtual physical := by
  have run_ : runF Try.prog spec_GrantPages_G spec_GrantPages_A N Try.f30 spec_GrantPages_s (.sl list_ :: (.sl maps :: (.int k :: (.int virtual :: (.sl physical :: ([])))))) = spec_GrantPages_t Vm.bad spec_GrantPages_K (fun i out_ => loopN (spec_GrantPages_B0 N) N (spec_GrantPages_m0 list_ maps k virtual physical i out_)) list_ maps k virtual physical := by kernel_rfl
  refine run_.trans ?_
  unfold spec_GrantPages_f
  have e0 : (fun i out_ => loopN (spec_GrantPages_B0 N) N (spec_GrantPages_m0 list_ maps k virtual physical i out_)) = (spec_GrantPages_L0 Vm.bad spec_GrantPages_K N list_ maps k virtual physical N) := by
    exact spec_GrantPages_n0 N list_ maps k virtual physical N
  exact congrArg (fun l_ => spec_GrantPages_t Vm.bad spec_GrantPages_K l_ list_ maps k virtual physical) e0
theorem spec_GrantPages_h : Holds Try.prog 30 spec_GrantPages_s := by
  refine holds_of_run (A := spec_GrantPages_A) spec_GrantPages_x Try.func30 rfl (by kernel_rfl) (of_decide_eq_true (by kernel_rfl)) (of_decide_eq_true (by kernel_rfl)) ?_
  intro ds hw hok
  replace hw : WtL ((.sl [.int .i64, .int .i64, .int .i64, .int .i64, .int .i64, .bool, .int .i64, .int .i64]) :: ((.sl [.int .i64, .int .i64, .int .i64, .bool]) :: ((.int .i64) :: ((.int .i64) :: ((.sl [.int .i64]) :: ([])))))) ds := hw
  obtain ⟨list_, ds, rfl, h_list_, hw⟩ := of_wt_sl hw
  obtain ⟨maps, ds, rfl, h_maps, hw⟩ := of_wt_sl hw
  obtain ⟨k, ds, rfl, h_k, hw⟩ := of_wt_int hw
  obtain ⟨virtual, ds, rfl, h_virtual, hw⟩ := of_wt_int hw
  obtain ⟨physical, ds, rfl, h_physical, hw⟩ := of_wt_sl hw
  obtain rfl := of_wt_nil hw
  obtain ⟨N, hN⟩ := spec_GrantPages_c Vm.bad spec_GrantPages_K list_ maps k virtual physical h_list_ h_maps h_k h_virtual h_physical hok
  exact ⟨N, ((spec_GrantPages_r N list_ maps k virtual physical).trans hN).trans (by kernel_rfl)⟩

end
end Go.Proofs.Ytfnkhejoihnlnaa.Pl
