/- The contracts of functions of the program: each computes what its plain form says. Conditions: none. -/
import Derived.Test.YtjmgpcfmcdlnpaaPFi
import Derived.Test.YtjmgpcfmcdlnpaaRows
import Derived.Test.YtjmgpcfmcdlnpaaBBa
set_option linter.unusedVariables false
set_option linter.unusedSimpArgs false
set_option maxRecDepth 100000
namespace Go.Proofs.Ytjmgpcfmcdlnpaa.Pl
open Vm
noncomputable section

def impl_copyInts_s : Sum := { ps := [⟨[.sl [.int .i64]], false⟩], rs := [⟨[.own 3 [.int .i64]], false⟩], fn := fun ds => (sm (rR ds 0), [.sl (idf (rR ds 0))]) }
def impl_copyInts_G : Ctx := []
theorem impl_copyInts_x : CtxHolds Try.prog impl_copyInts_G := ctx_nil
def impl_copyInts_A : List (Nat × Ann) := []
theorem impl_copyInts_r (N : Nat) (l : Rows) : runF Try.prog impl_copyInts_G impl_copyInts_A N Try.f65 impl_copyInts_s (.sl l :: ([])) = impl_copyInts_t Vm.bad (fun r0 => ((true, [.sl r0]) : Res)) l := by kernel_rfl
theorem impl_copyInts_h : Holds Try.prog 65 impl_copyInts_s := by
  refine holds_of_run (A := impl_copyInts_A) impl_copyInts_x Try.func65 rfl (by kernel_rfl) (of_decide_eq_true (by kernel_rfl)) (of_decide_eq_true (by kernel_rfl)) ?_
  intro ds hw hok
  replace hw : WtL ((.sl [.int .i64]) :: ([])) ds := hw
  obtain ⟨l, ds, rfl, h_l, hw⟩ := of_wt_sl hw
  obtain rfl := of_wt_nil hw
  exact ⟨0, ((impl_copyInts_r 0 l).trans (impl_copyInts_c Vm.bad _ l h_l hok)).trans (by kernel_rfl)⟩

def impl_copyFilter_s : Sum := { ps := [⟨[.int .i64, .bool, .sl [.int .i64]], true⟩], rs := [⟨[.imm (.int .i64), .imm .bool, .own 3 [.int .i64]], true⟩], fn := fun ds => (fiSm (SFilter.decAt ds 0), SFilter.enc (idf (SFilter.decAt ds 0))) }
def impl_copyFilter_G : Ctx := [(65, impl_copyInts_s)]
theorem impl_copyFilter_x : CtxHolds Try.prog impl_copyFilter_G := ctx_cons impl_copyInts_h ctx_nil
def impl_copyFilter_A : List (Nat × Ann) := []
theorem impl_copyFilter_r (N : Nat) (f : SFilter) : runF Try.prog impl_copyFilter_G impl_copyFilter_A N Try.f57 impl_copyFilter_s (f.enc ++ ([])) = impl_copyFilter_t Vm.bad (fun r0 => ((true, SFilter.enc r0) : Res)) f := by kernel_rfl
theorem impl_copyFilter_h : Holds Try.prog 57 impl_copyFilter_s := by
  refine holds_of_run (A := impl_copyFilter_A) impl_copyFilter_x Try.func57 rfl (by kernel_rfl) (of_decide_eq_true (by kernel_rfl)) (of_decide_eq_true (by kernel_rfl)) ?_
  intro ds hw hok
  replace hw : WtL (SFilter.ct ++ ([])) ds := hw
  obtain ⟨f, ds, rfl, h_f, hw⟩ := SFilter.of_wt (r := _) hw
  obtain rfl := of_wt_nil hw
  exact ⟨0, ((impl_copyFilter_r 0 f).trans (impl_copyFilter_c Vm.bad _ f h_f hok)).trans (by kernel_rfl)⟩

def spec_l24Copy_s : Sum := { ps := [⟨[.int .i64, .bool, .sl [.int .i64]], true⟩], rs := [⟨[.imm (.int .i64), .imm .bool, .own 3 [.int .i64]], true⟩], fn := fun ds => (fiSm (SFilter.decAt ds 0), SFilter.enc (idf (SFilter.decAt ds 0))) }
def spec_l24Copy_G : Ctx := []
theorem spec_l24Copy_x : CtxHolds Try.prog spec_l24Copy_G := ctx_nil
def spec_l24Copy_A : List (Nat × Ann) := []
theorem spec_l24Copy_r (N : Nat) (f : SFilter) : runF Try.prog spec_l24Copy_G spec_l24Copy_A N Try.f60 spec_l24Copy_s (f.enc ++ ([])) = spec_l24Copy_t Vm.bad (fun r0 => ((true, SFilter.enc r0) : Res)) f := by kernel_rfl
theorem spec_l24Copy_h : Holds Try.prog 60 spec_l24Copy_s := by
  refine holds_of_run (A := spec_l24Copy_A) spec_l24Copy_x Try.func60 rfl (by kernel_rfl) (of_decide_eq_true (by kernel_rfl)) (of_decide_eq_true (by kernel_rfl)) ?_
  intro ds hw hok
  replace hw : WtL (SFilter.ct ++ ([])) ds := hw
  obtain ⟨f, ds, rfl, h_f, hw⟩ := SFilter.of_wt (r := _) hw
  obtain rfl := of_wt_nil hw
  exact ⟨0, ((spec_l24Copy_r 0 f).trans (spec_l24Copy_c Vm.bad _ f h_f hok)).trans (by kernel_rfl)⟩

def impl_addOrdered_s : Sum := { ps := [⟨[.sl [.int .i64]], false⟩, ⟨[.int .i64], false⟩], rs := [⟨[.own 3 [.int .i64]], false⟩], fn := fun ds => (addOk (rR ds 0) (rI ds 1), [.sl (addOrdered (rR ds 0) (rI ds 1))]) }
def impl_addOrdered_G : Ctx := []
theorem impl_addOrdered_x : CtxHolds Try.prog impl_addOrdered_G := ctx_nil
def impl_addOrdered_A : List (Nat × Ann) := [(4, { slots := [(1, .asis), (5, .asis), (6, .asis), (10, .asis), (11, .asis), (12, .asis)], boxes := [] })]
def impl_addOrdered_K : Rows → Res := (fun r0 => ((true, [.sl r0]) : Res))
def impl_addOrdered_m0 (n : Int) (put : Bool) (l : Rows) (x_1 : Int) (x_2 : Int) (out_ : Rows) : St := { n := 39, sl := [(1, .int .i64 n), (5, .own 640320), (6, .bool put), (10, .sl [.int .i64] l), (11, .int .i64 x_1), (12, .int .i64 x_2)], hp := [(640320, .row 3 [.int .i64] out_ false true)], ok := true, ls := [], lm := [] }
noncomputable def impl_addOrdered_B0 (N : Nat) : (St → Res) → St → Res := loopB Try.prog impl_addOrdered_G impl_addOrdered_A N Try.f67 impl_addOrdered_s [true, true, true, false, true, false] []
theorem impl_addOrdered_b0 (N : Nat) (n : Int) (l : Rows) (x_1 : Int) (ih : St → Res) (put : Bool) (x_2 : Int) (out_ : Rows) : impl_addOrdered_B0 N ih (impl_addOrdered_m0 n put l x_1 x_2 out_) = impl_addOrdered_l0 Vm.bad impl_addOrdered_K n l x_1 (fun put x_2 out_ => ih (impl_addOrdered_m0 n put l x_1 x_2 out_)) put x_2 out_ := by kernel_rfl
theorem impl_addOrdered_n0 (N : Nat) (n : Int) (l : Rows) (x_1 : Int) (m_ : Nat) : (fun put x_2 out_ => loopN (impl_addOrdered_B0 N) m_ (impl_addOrdered_m0 n put l x_1 x_2 out_)) = impl_addOrdered_L0 Vm.bad impl_addOrdered_K N n l x_1 m_ := by
  induction m_ with
  | zero => rfl
  | succ m_ ih =>
    funext put x_2 out_
    show impl_addOrdered_B0 N (loopN (impl_addOrdered_B0 N) m_) (impl_addOrdered_m0 n put l x_1 x_2 out_) = _
    rw [impl_addOrdered_b0 N n l x_1]
    rw [ih]
    rfl
theorem impl_addOrdered_r (N : Nat) (l : Rows) (n : Int) : runF Try.prog impl_addOrdered_G impl_addOrdered_A N Try.f67 impl_addOrdered_s (.sl l :: (.int n :: ([]))) = impl_addOrdered_f Vm.bad impl_addOrdered_K N l n := by
  have h : runF Try.prog impl_addOrdered_G impl_addOrdered_A N Try.f67 impl_addOrdered_s (.sl l :: (.int n :: ([]))) = impl_addOrdered_t Vm.bad impl_addOrdered_K (fun x_1 put x_2 out_ => loopN (impl_addOrdered_B0 N) N (impl_addOrdered_m0 n put l x_1 x_2 out_)) l n := by kernel_rfl
  refine h.trans ?_
  unfold impl_addOrdered_f
  have e0 : (fun x_1 put x_2 out_ => loopN (impl_addOrdered_B0 N) N (impl_addOrdered_m0 n put l x_1 x_2 out_)) = (fun x_1 => impl_addOrdered_L0 Vm.bad impl_addOrdered_K N n l x_1 N) := by
    funext x_1
    exact impl_addOrdered_n0 N n l x_1 N
  exact congrArg (fun l_ => impl_addOrdered_t Vm.bad impl_addOrdered_K l_ l n) e0
theorem impl_addOrdered_h : Holds Try.prog 67 impl_addOrdered_s := by
  refine holds_of_run (A := impl_addOrdered_A) impl_addOrdered_x Try.func67 rfl (by kernel_rfl) (of_decide_eq_true (by kernel_rfl)) (of_decide_eq_true (by kernel_rfl)) ?_
  intro ds hw hok
  replace hw : WtL ((.sl [.int .i64]) :: ((.int .i64) :: ([]))) ds := hw
  obtain ⟨l, ds, rfl, h_l, hw⟩ := of_wt_sl hw
  obtain ⟨n, ds, rfl, h_n, hw⟩ := of_wt_int hw
  obtain rfl := of_wt_nil hw
  obtain ⟨N, hN⟩ := impl_addOrdered_c Vm.bad impl_addOrdered_K l n h_l h_n hok
  exact ⟨N, ((impl_addOrdered_r N l n).trans hN).trans (by kernel_rfl)⟩

def impl_AddVlan_s : Sum := { ps := [⟨[.int .i64, .bool, .sl [.int .i64]], true⟩, ⟨[.int .i64], false⟩], rs := [⟨[.imm (.int .i64), .imm .bool, .own 3 [.int .i64]], true⟩, ⟨[.imm .bool], false⟩], fn := fun ds => (fiSm1 (SFilter.decAt ds 0) (rI ds 3), SFilter.enc (AddVlan (SFilter.decAt ds 0) (rI ds 3)).1 ++ [.bool (AddVlan (SFilter.decAt ds 0) (rI ds 3)).2]) }
def impl_AddVlan_G : Ctx := [(17, impl_FilterOk_s), (57, impl_copyFilter_s), (66, impl_hasInt_s), (67, impl_addOrdered_s)]
theorem impl_AddVlan_x : CtxHolds Try.prog impl_AddVlan_G := ctx_cons impl_FilterOk_h (ctx_cons impl_copyFilter_h (ctx_cons impl_hasInt_h (ctx_cons impl_addOrdered_h ctx_nil)))
def impl_AddVlan_A : List (Nat × Ann) := []
theorem impl_AddVlan_r (N : Nat) (f : SFilter) (vlan : Int) : runF Try.prog impl_AddVlan_G impl_AddVlan_A N Try.f58 impl_AddVlan_s (f.enc ++ (.int vlan :: ([]))) = impl_AddVlan_t Vm.bad (fun r0 r1 => ((true, SFilter.enc r0 ++ [.bool r1]) : Res)) f vlan := by kernel_rfl
theorem impl_AddVlan_h : Holds Try.prog 58 impl_AddVlan_s := by
  refine holds_of_run (A := impl_AddVlan_A) impl_AddVlan_x Try.func58 rfl (by kernel_rfl) (of_decide_eq_true (by kernel_rfl)) (of_decide_eq_true (by kernel_rfl)) ?_
  intro ds hw hok
  replace hw : WtL (SFilter.ct ++ ((.int .i64) :: ([]))) ds := hw
  obtain ⟨f, ds, rfl, h_f, hw⟩ := SFilter.of_wt (r := _) hw
  obtain ⟨vlan, ds, rfl, h_vlan, hw⟩ := of_wt_int hw
  obtain rfl := of_wt_nil hw
  exact ⟨0, ((impl_AddVlan_r 0 f vlan).trans (impl_AddVlan_c Vm.bad _ f vlan h_f h_vlan hok)).trans (by kernel_rfl)⟩

def spec_AddVlan_s : Sum := { ps := [⟨[.int .i64, .bool, .sl [.int .i64]], true⟩, ⟨[.int .i64], false⟩], rs := [⟨[.imm (.int .i64), .imm .bool, .own 3 [.int .i64]], true⟩, ⟨[.imm .bool], false⟩], fn := fun ds => (fiSm1 (SFilter.decAt ds 0) (rI ds 3), SFilter.enc (AddVlan (SFilter.decAt ds 0) (rI ds 3)).1 ++ [.bool (AddVlan (SFilter.decAt ds 0) (rI ds 3)).2]) }
def spec_AddVlan_G : Ctx := [(35, spec_FilterOk_s), (60, spec_l24Copy_s)]
theorem spec_AddVlan_x : CtxHolds Try.prog spec_AddVlan_G := ctx_cons spec_FilterOk_h (ctx_cons spec_l24Copy_h ctx_nil)
def spec_AddVlan_A : List (Nat × Ann) := [(3, { slots := [(1, .asis), (2, .asis), (4, .asis), (6, .asis), (7, .asis)], boxes := [(128, []), (256, []), (384, [])] })]
def spec_AddVlan_K : SFilter → Bool → Res := (fun r0 r1 => ((true, SFilter.enc r0 ++ [.bool r1]) : Res))
def spec_AddVlan_m0 (vlan : Int) (k : Int) (f_1 : Int) (f_2 : Bool) (f_3 : Rows) (b4 : Int) (b4_1 : Bool) (out_ : Int) (out_1 : Bool) (out_2 : Rows) : St := { n := 52, sl := [(1, .int .i64 vlan), (2, .ptr 128 0), (4, .ptr 256 0), (6, .ptr 384 0), (7, .int .i64 k)], hp := [(128, .box 29 [.int .i64 f_1, .bool f_2, .sl [.int .i64] f_3]), (256, .box 29 [.int .i64 b4, .bool b4_1, .nil]), (384, .box 29 [.int .i64 out_, .bool out_1, .own 1378306]), (1378306, .row 3 [.int .i64] out_2 false true)], ok := true, ls := [], lm := [] }
noncomputable def spec_AddVlan_B0 (N : Nat) : (St → Res) → St → Res := loopB Try.prog spec_AddVlan_G spec_AddVlan_A N Try.f61 spec_AddVlan_s [true, true, true, false, false] []
theorem spec_AddVlan_b0 (N : Nat) (vlan : Int) (f_1 : Int) (f_2 : Bool) (f_3 : Rows) (b4 : Int) (b4_1 : Bool) (out_ : Int) (out_1 : Bool) (out_2 : Rows) (ih : St → Res) (k : Int) : spec_AddVlan_B0 N ih (spec_AddVlan_m0 vlan k f_1 f_2 f_3 b4 b4_1 out_ out_1 out_2) = spec_AddVlan_l0 Vm.bad spec_AddVlan_K vlan f_1 f_2 f_3 out_ out_1 (fun k => ih (spec_AddVlan_m0 vlan k f_1 f_2 f_3 b4 b4_1 out_ out_1 out_2)) k := by kernel_rfl
theorem spec_AddVlan_n0 (N : Nat) (vlan : Int) (f_1 : Int) (f_2 : Bool) (f_3 : Rows) (b4 : Int) (b4_1 : Bool) (out_ : Int) (out_1 : Bool) (out_2 : Rows) (m_ : Nat) : (fun k => loopN (spec_AddVlan_B0 N) m_ (spec_AddVlan_m0 vlan k f_1 f_2 f_3 b4 b4_1 out_ out_1 out_2)) = spec_AddVlan_L0 Vm.bad spec_AddVlan_K N vlan f_1 f_2 f_3 out_ out_1 m_ := by
  induction m_ with
  | zero => rfl
  | succ m_ ih =>
    funext k
    show spec_AddVlan_B0 N (loopN (spec_AddVlan_B0 N) m_) (spec_AddVlan_m0 vlan k f_1 f_2 f_3 b4 b4_1 out_ out_1 out_2) = _
    rw [spec_AddVlan_b0 N vlan f_1 f_2 f_3 b4 b4_1 out_ out_1 out_2]
    rw [ih]
    rfl
theorem spec_AddVlan_r (N : Nat) (f : SFilter) (vlan : Int) : runF Try.prog spec_AddVlan_G spec_AddVlan_A N Try.f61 spec_AddVlan_s (f.enc ++ (.int vlan :: ([]))) = spec_AddVlan_f Vm.bad spec_AddVlan_K N f vlan := by
  have h : runF Try.prog spec_AddVlan_G spec_AddVlan_A N Try.f61 spec_AddVlan_s (f.enc ++ (.int vlan :: ([]))) = spec_AddVlan_t Vm.bad spec_AddVlan_K (fun f_1 f_2 f_3 out_ out_1 k => loopN (spec_AddVlan_B0 N) N (spec_AddVlan_m0 vlan k f_1 f_2 f_3 0 false out_ out_1 ((idf f).Vlans))) f vlan := by kernel_rfl
  refine h.trans ?_
  unfold spec_AddVlan_f
  have e0 : (fun f_1 f_2 f_3 out_ out_1 k => loopN (spec_AddVlan_B0 N) N (spec_AddVlan_m0 vlan k f_1 f_2 f_3 0 false out_ out_1 ((idf f).Vlans))) = (fun f_1 f_2 f_3 out_ out_1 => spec_AddVlan_L0 Vm.bad spec_AddVlan_K N vlan f_1 f_2 f_3 out_ out_1 N) := by
    funext f_1 f_2 f_3 out_ out_1
    exact spec_AddVlan_n0 N vlan f_1 f_2 f_3 0 false out_ out_1 ((idf f).Vlans) N
  exact congrArg (fun l_ => spec_AddVlan_t Vm.bad spec_AddVlan_K l_ f vlan) e0
theorem spec_AddVlan_h : Holds Try.prog 61 spec_AddVlan_s := by
  refine holds_of_run (A := spec_AddVlan_A) spec_AddVlan_x Try.func61 rfl (by kernel_rfl) (of_decide_eq_true (by kernel_rfl)) (of_decide_eq_true (by kernel_rfl)) ?_
  intro ds hw hok
  replace hw : WtL (SFilter.ct ++ ((.int .i64) :: ([]))) ds := hw
  obtain ⟨f, ds, rfl, h_f, hw⟩ := SFilter.of_wt (r := _) hw
  obtain ⟨vlan, ds, rfl, h_vlan, hw⟩ := of_wt_int hw
  obtain rfl := of_wt_nil hw
  obtain ⟨N, hN⟩ := spec_AddVlan_c Vm.bad spec_AddVlan_K f vlan h_f h_vlan hok
  exact ⟨N, ((spec_AddVlan_r N f vlan).trans hN).trans (by kernel_rfl)⟩

def impl_DropVlan_s : Sum := { ps := [⟨[.int .i64, .bool, .sl [.int .i64]], true⟩, ⟨[.int .i64], false⟩], rs := [⟨[.imm (.int .i64), .imm .bool, .own 3 [.int .i64]], true⟩, ⟨[.imm .bool], false⟩], fn := fun ds => (fiSm1 (SFilter.decAt ds 0) (rI ds 3), SFilter.enc (DropVlan (SFilter.decAt ds 0) (rI ds 3)).1 ++ [.bool (DropVlan (SFilter.decAt ds 0) (rI ds 3)).2]) }
def impl_DropVlan_G : Ctx := [(17, impl_FilterOk_s), (57, impl_copyFilter_s), (66, impl_hasInt_s)]
theorem impl_DropVlan_x : CtxHolds Try.prog impl_DropVlan_G := ctx_cons impl_FilterOk_h (ctx_cons impl_copyFilter_h (ctx_cons impl_hasInt_h ctx_nil))
def impl_DropVlan_A : List (Nat × Ann) := [(6, { slots := [(1, .asis), (4, .asis), (6, .asis), (25, .asis), (26, .asis), (27, .asis)], boxes := [(128, []), (256, []), (384, [])] })]
def impl_DropVlan_K : SFilter → Bool → Res := (fun r0 r1 => ((true, SFilter.enc r0 ++ [.bool r1]) : Res))
def impl_DropVlan_m0 (vlan : Int) (x : Rows) (x_1 : Int) (x_2 : Int) (f_1 : Int) (f_2 : Bool) (f_3 : Rows) (b4 : Int) (b4_1 : Bool) (out_ : Int) (out_1 : Bool) (out_2 : Rows) : St := { n := 42, sl := [(1, .int .i64 vlan), (4, .ptr 256 0), (6, .ptr 384 0), (25, .sl [.int .i64] x), (26, .int .i64 x_1), (27, .int .i64 x_2)], hp := [(128, .box 29 [.int .i64 f_1, .bool f_2, .sl [.int .i64] f_3]), (256, .box 29 [.int .i64 b4, .bool b4_1, .nil]), (384, .box 29 [.int .i64 out_, .bool out_1, .own 1378306]), (1378306, .row 3 [.int .i64] out_2 false true)], ok := true, ls := [], lm := [] }
noncomputable def impl_DropVlan_B0 (N : Nat) : (St → Res) → St → Res := loopB Try.prog impl_DropVlan_G impl_DropVlan_A N Try.f59 impl_DropVlan_s [true, true, true, true, false, true, false] []
theorem impl_DropVlan_b0 (N : Nat) (vlan : Int) (x : Rows) (x_1 : Int) (f_1 : Int) (f_2 : Bool) (f_3 : Rows) (b4 : Int) (b4_1 : Bool) (out_ : Int) (out_1 : Bool) (ih : St → Res) (x_2 : Int) (out_2 : Rows) : impl_DropVlan_B0 N ih (impl_DropVlan_m0 vlan x x_1 x_2 f_1 f_2 f_3 b4 b4_1 out_ out_1 out_2) = impl_DropVlan_l0 Vm.bad impl_DropVlan_K vlan x x_1 out_ out_1 (fun x_2 out_2 => ih (impl_DropVlan_m0 vlan x x_1 x_2 f_1 f_2 f_3 b4 b4_1 out_ out_1 out_2)) x_2 out_2 := by kernel_rfl
theorem impl_DropVlan_n0 (N : Nat) (vlan : Int) (x : Rows) (x_1 : Int) (f_1 : Int) (f_2 : Bool) (f_3 : Rows) (b4 : Int) (b4_1 : Bool) (out_ : Int) (out_1 : Bool) (m_ : Nat) : (fun x_2 out_2 => loopN (impl_DropVlan_B0 N) m_ (impl_DropVlan_m0 vlan x x_1 x_2 f_1 f_2 f_3 b4 b4_1 out_ out_1 out_2)) = impl_DropVlan_L0 Vm.bad impl_DropVlan_K N vlan x x_1 out_ out_1 m_ := by
  induction m_ with
  | zero => rfl
  | succ m_ ih =>
    funext x_2 out_2
    show impl_DropVlan_B0 N (loopN (impl_DropVlan_B0 N) m_) (impl_DropVlan_m0 vlan x x_1 x_2 f_1 f_2 f_3 b4 b4_1 out_ out_1 out_2) = _
    rw [impl_DropVlan_b0 N vlan x x_1 f_1 f_2 f_3 b4 b4_1 out_ out_1]
    rw [ih]
    rfl
theorem impl_DropVlan_r (N : Nat) (f : SFilter) (vlan : Int) : runF Try.prog impl_DropVlan_G impl_DropVlan_A N Try.f59 impl_DropVlan_s (f.enc ++ (.int vlan :: ([]))) = impl_DropVlan_f Vm.bad impl_DropVlan_K N f vlan := by
  have h : runF Try.prog impl_DropVlan_G impl_DropVlan_A N Try.f59 impl_DropVlan_s (f.enc ++ (.int vlan :: ([]))) = impl_DropVlan_t Vm.bad impl_DropVlan_K (fun x x_1 out_ out_1 x_2 out_2 => loopN (impl_DropVlan_B0 N) N (impl_DropVlan_m0 vlan x x_1 x_2 f.Mac f.Promiscuous f.Vlans 0 false out_ out_1 out_2)) f vlan := by kernel_rfl
  refine h.trans ?_
  unfold impl_DropVlan_f
  have e0 : (fun x x_1 out_ out_1 x_2 out_2 => loopN (impl_DropVlan_B0 N) N (impl_DropVlan_m0 vlan x x_1 x_2 f.Mac f.Promiscuous f.Vlans 0 false out_ out_1 out_2)) = (fun x x_1 out_ out_1 => impl_DropVlan_L0 Vm.bad impl_DropVlan_K N vlan x x_1 out_ out_1 N) := by
    funext x x_1 out_ out_1
    exact impl_DropVlan_n0 N vlan x x_1 f.Mac f.Promiscuous f.Vlans 0 false out_ out_1 N
  exact congrArg (fun l_ => impl_DropVlan_t Vm.bad impl_DropVlan_K l_ f vlan) e0
theorem impl_DropVlan_h : Holds Try.prog 59 impl_DropVlan_s := by
  refine holds_of_run (A := impl_DropVlan_A) impl_DropVlan_x Try.func59 rfl (by kernel_rfl) (of_decide_eq_true (by kernel_rfl)) (of_decide_eq_true (by kernel_rfl)) ?_
  intro ds hw hok
  replace hw : WtL (SFilter.ct ++ ((.int .i64) :: ([]))) ds := hw
  obtain ⟨f, ds, rfl, h_f, hw⟩ := SFilter.of_wt (r := _) hw
  obtain ⟨vlan, ds, rfl, h_vlan, hw⟩ := of_wt_int hw
  obtain rfl := of_wt_nil hw
  obtain ⟨N, hN⟩ := impl_DropVlan_c Vm.bad impl_DropVlan_K f vlan h_f h_vlan hok
  exact ⟨N, ((impl_DropVlan_r N f vlan).trans hN).trans (by kernel_rfl)⟩

def spec_DropVlan_s : Sum := { ps := [⟨[.int .i64, .bool, .sl [.int .i64]], true⟩, ⟨[.int .i64], false⟩], rs := [⟨[.imm (.int .i64), .imm .bool, .own 3 [.int .i64]], true⟩, ⟨[.imm .bool], false⟩], fn := fun ds => (fiSm1 (SFilter.decAt ds 0) (rI ds 3), SFilter.enc (DropVlan (SFilter.decAt ds 0) (rI ds 3)).1 ++ [.bool (DropVlan (SFilter.decAt ds 0) (rI ds 3)).2]) }
def spec_DropVlan_G : Ctx := [(35, spec_FilterOk_s), (60, spec_l24Copy_s), (68, spec_l24Has_s)]
theorem spec_DropVlan_x : CtxHolds Try.prog spec_DropVlan_G := ctx_cons spec_FilterOk_h (ctx_cons spec_l24Copy_h (ctx_cons spec_l24Has_h ctx_nil))
def spec_DropVlan_A : List (Nat × Ann) := [(6, { slots := [(1, .asis), (2, .asis), (4, .asis), (6, .asis), (7, .asis)], boxes := [(128, []), (256, []), (384, [])] })]
def spec_DropVlan_K : SFilter → Bool → Res := (fun r0 r1 => ((true, SFilter.enc r0 ++ [.bool r1]) : Res))
def spec_DropVlan_m0 (vlan : Int) (k : Int) (f_1 : Int) (f_2 : Bool) (f_3 : Rows) (b4 : Int) (b4_1 : Bool) (out_ : Int) (out_1 : Bool) (out_2 : Rows) : St := { n := 48, sl := [(1, .int .i64 vlan), (2, .ptr 128 0), (4, .ptr 256 0), (6, .ptr 384 0), (7, .int .i64 k)], hp := [(128, .box 29 [.int .i64 f_1, .bool f_2, .sl [.int .i64] f_3]), (256, .box 29 [.int .i64 b4, .bool b4_1, .nil]), (384, .box 29 [.int .i64 out_, .bool out_1, .own 1378306]), (1378306, .row 3 [.int .i64] out_2 false true)], ok := true, ls := [], lm := [] }
noncomputable def spec_DropVlan_B0 (N : Nat) : (St → Res) → St → Res := loopB Try.prog spec_DropVlan_G spec_DropVlan_A N Try.f62 spec_DropVlan_s [true, true, true, true, false, true, false] []
theorem spec_DropVlan_b0 (N : Nat) (vlan : Int) (f_1 : Int) (f_2 : Bool) (f_3 : Rows) (b4 : Int) (b4_1 : Bool) (out_ : Int) (out_1 : Bool) (ih : St → Res) (k : Int) (out_2 : Rows) : spec_DropVlan_B0 N ih (spec_DropVlan_m0 vlan k f_1 f_2 f_3 b4 b4_1 out_ out_1 out_2) = spec_DropVlan_l0 Vm.bad spec_DropVlan_K vlan f_3 out_ out_1 (fun k out_2 => ih (spec_DropVlan_m0 vlan k f_1 f_2 f_3 b4 b4_1 out_ out_1 out_2)) k out_2 := by kernel_rfl
theorem spec_DropVlan_n0 (N : Nat) (vlan : Int) (f_1 : Int) (f_2 : Bool) (f_3 : Rows) (b4 : Int) (b4_1 : Bool) (out_ : Int) (out_1 : Bool) (m_ : Nat) : (fun k out_2 => loopN (spec_DropVlan_B0 N) m_ (spec_DropVlan_m0 vlan k f_1 f_2 f_3 b4 b4_1 out_ out_1 out_2)) = spec_DropVlan_L0 Vm.bad spec_DropVlan_K N vlan f_3 out_ out_1 m_ := by
  induction m_ with
  | zero => rfl
  | succ m_ ih =>
    funext k out_2
    show spec_DropVlan_B0 N (loopN (spec_DropVlan_B0 N) m_) (spec_DropVlan_m0 vlan k f_1 f_2 f_3 b4 b4_1 out_ out_1 out_2) = _
    rw [spec_DropVlan_b0 N vlan f_1 f_2 f_3 b4 b4_1 out_ out_1]
    rw [ih]
    rfl
theorem spec_DropVlan_r (N : Nat) (f : SFilter) (vlan : Int) : runF Try.prog spec_DropVlan_G spec_DropVlan_A N Try.f62 spec_DropVlan_s (f.enc ++ (.int vlan :: ([]))) = spec_DropVlan_f Vm.bad spec_DropVlan_K N f vlan := by
  have h : runF Try.prog spec_DropVlan_G spec_DropVlan_A N Try.f62 spec_DropVlan_s (f.enc ++ (.int vlan :: ([]))) = spec_DropVlan_t Vm.bad spec_DropVlan_K (fun f_3 out_ out_1 k out_2 => loopN (spec_DropVlan_B0 N) N (spec_DropVlan_m0 vlan k f.Mac f.Promiscuous f_3 0 false out_ out_1 out_2)) f vlan := by kernel_rfl
  refine h.trans ?_
  unfold spec_DropVlan_f
  have e0 : (fun f_3 out_ out_1 k out_2 => loopN (spec_DropVlan_B0 N) N (spec_DropVlan_m0 vlan k f.Mac f.Promiscuous f_3 0 false out_ out_1 out_2)) = (fun f_3 out_ out_1 => spec_DropVlan_L0 Vm.bad spec_DropVlan_K N vlan f_3 out_ out_1 N) := by
    funext f_3 out_ out_1
    exact spec_DropVlan_n0 N vlan f.Mac f.Promiscuous f_3 0 false out_ out_1 N
  exact congrArg (fun l_ => spec_DropVlan_t Vm.bad spec_DropVlan_K l_ f vlan) e0
theorem spec_DropVlan_h : Holds Try.prog 62 spec_DropVlan_s := by
  refine holds_of_run (A := spec_DropVlan_A) spec_DropVlan_x Try.func62 rfl (by kernel_rfl) (of_decide_eq_true (by kernel_rfl)) (of_decide_eq_true (by kernel_rfl)) ?_
  intro ds hw hok
  replace hw : WtL (SFilter.ct ++ ((.int .i64) :: ([]))) ds := hw
  obtain ⟨f, ds, rfl, h_f, hw⟩ := SFilter.of_wt (r := _) hw
  obtain ⟨vlan, ds, rfl, h_vlan, hw⟩ := of_wt_int hw
  obtain rfl := of_wt_nil hw
  obtain ⟨N, hN⟩ := spec_DropVlan_c Vm.bad spec_DropVlan_K f vlan h_f h_vlan hok
  exact ⟨N, ((spec_DropVlan_r N f vlan).trans hN).trans (by kernel_rfl)⟩

end
end Go.Proofs.Ytjmgpcfmcdlnpaa.Pl
